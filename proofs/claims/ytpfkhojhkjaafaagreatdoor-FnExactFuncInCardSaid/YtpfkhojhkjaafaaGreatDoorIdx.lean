/- slices.Index at texts: where a text stands first. -/
import Derived.Test.YtpfkhojhkjaafaaGreatDoorTyPlain
import Derived.Test.YtpfkhojhkjaafaaGreatDoorRow4
import Derived.Test.YtpfkhojhkjaafaaGreatDoorData
namespace Go.Proofs.YtpfkhojhkjaafaaGreatDoor
open Go.RowKit

def idxS (l : List ByteArray) (s : ByteArray) : Option Nat := l.findIdx? (fun x => x.toList == s.toList)
def idxI : Option Nat → Int
  | some k => (k : Int)
  | none => -1
def IdxTo (l : List ByteArray) (s : ByteArray) (k : Nat) : Prop := ∀ j x, j < k → l[j]? = some x → (x.toList == s.toList) = false
theorem IdxTo.zero (l : List ByteArray) (s : ByteArray) : IdxTo l s 0 := fun j x h => absurd h (by omega)
theorem IdxTo.next {l : List ByteArray} {s x : ByteArray} {k : Nat} (h : IdxTo l s k) (hx : l[k]? = some x) (hs : (x.toList == s.toList) = false) : IdxTo l s (k + 1) := by
  intro j y hj hy
  by_cases e : j = k
  · subst e
    rw [hx] at hy
    obtain rfl := Option.some.inj hy
    exact hs
  · exact h j y (by omega) hy
theorem IdxTo.hit {l : List ByteArray} {s x : ByteArray} {k : Nat} (h : IdxTo l s k) (hx : l[k]? = some x) (hs : (x.toList == s.toList) = true) : idxS l s = some k := by
  unfold idxS
  rw [List.findIdx?_eq_some_iff_getElem]
  obtain ⟨hk, e⟩ := List.getElem?_eq_some_iff.1 hx
  refine ⟨hk, by rw [e]; exact hs, fun j hj => ?_⟩
  rw [h j _ hj (List.getElem?_eq_getElem (by omega))]
  decide
theorem IdxTo.none {l : List ByteArray} {s : ByteArray} (h : IdxTo l s l.length) : idxS l s = none := by
  unfold idxS
  rw [List.findIdx?_eq_none_iff]
  intro x hx
  obtain ⟨j, hj⟩ := List.getElem?_of_mem hx
  exact h j x (List.getElem?_eq_some_iff.1 hj).1 hj
theorem idxS_lt {l : List ByteArray} {s : ByteArray} {k : Nat} (h : idxS l s = some k) : k < l.length := by
  unfold idxS at h
  rw [List.findIdx?_eq_some_iff_getElem] at h
  exact h.1
set_option maxHeartbeats 4000000 in
set_option maxRecDepth 20000 in
theorem index_i (l : List ByteArray) (s : ByteArray) (A : Option Addr) (cap : Nat) (w : World) (hv : D.At w anyB (strs l) (.slice A l.length cap)) :
    Calls Tryz.prog 134 #[.slice A l.length cap, .string s] w fun e w' => e = .returned (.int .i64 (idxI (idxS l s))) ∧ w = w' := by
  obtain ⟨-, hn, hc⟩ := rows_bound hv
  unfold maxLen at hc
  have HV := Lib.hid hv
  clear hv
  go_enter Tryz.func134, Tryz.ntmps134
  go_wp2
  go_loopw [5, 8] (fun _ i wr => ∃ k : Nat, k ≤ l.length ∧ i = .int .i64 k ∧ IdxTo l s k ∧ w = wr) (fun _ i _ => l.length - (intOf i).toNat)
  case atStart => exact ⟨0, Nat.zero_le _, rfl, IdxTo.zero _ _, rfl⟩
  case round =>
    obtain ⟨k, hk, rfl, hst, rfl⟩ := hrel
    have HST := Lib.hid hst
    clear hst
    by_cases hlt : k < l.length
    · obtain ⟨x, hx⟩ : ∃ x, l[k]? = some x := ⟨l[k], List.getElem?_eq_getElem hlt⟩
      have hk0 : (0 : Int) ≤ (k : Int) := by omega
      have hk1 : (k : Int) < (l.length : Int) := by omega
      obtain ⟨b, off, u0, rfl, -, hbl, hat, c0⟩ := rows_at1 strD_length HV.out hx
      obtain ⟨rfl, -⟩ := str_open hat
      have HN := Lib.hid hx
      clear hx hat
      cases hs : (x.toList == s.toList)
      · have hs' : (s.toList == x.toList) = false := by rw [BEq.comm]; exact hs
        have HB := Lib.hid (HST.out.next HN.out hs)
        go_wp2
        go_roundw
        case rel => exact ⟨k + 1, by omega, by go_num, HB.out, by first | rfl | trivial⟩
        case measure => simp [intOf]; omega
      · have hs' : (s.toList == x.toList) = true := by rw [BEq.comm]; exact hs
        have HB := Lib.hid (HST.out.hit HN.out hs)
        go_wp2
        go_ret
        exact ⟨ret_eq (by rw [HB.out]; rfl), rfl⟩
    · obtain rfl : k = l.length := by omega
      have HB := Lib.hid HST.out.none
      go_wp2
      go_ret
      exact ⟨ret_eq (by rw [HB.out]; rfl), rfl⟩
end Go.Proofs.YtpfkhojhkjaafaaGreatDoor
