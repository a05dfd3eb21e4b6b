/- Faces: the function values, and whether one of a row's texts meets one. -/
import Derived.Test.YtpfkhojhkjaafaaGreatDoorPkRes
import Derived.Test.YtpfkhojhkjaafaaGreatDoorPkNum
namespace Go.Proofs.YtpfkhojhkjaafaaGreatDoor
open Go.RowKit

set_option maxHeartbeats 2000000 in
set_option maxRecDepth 20000 in
theorem idxFn (F : FuncId) (p : ByteArray → Bool) (fv : Array Value) (L : List ByteArray) (A : Option Addr) (cap : Nat) (w : World) (hl : ∀ x ∈ L, ∀ W, Below w.heap.size w W → Calls Tryz.prog F (#[.string x] ++ fv) W fun e W' => e = .returned (.bool (p x)) ∧ Below W.heap.size W W')
    (hF : ∀ args w, (callFunc F args).run Tryz.prog w = .ok (.enter F args) w) (hv : D.At w anyB (strs L) (.slice A L.length cap)) :
    Calls Tryz.prog 130 #[.slice A L.length cap, .func (.func F) #[] fv] w fun e w' => (∃ r : Int, e = .returned (.int .i64 r) ∧ decide (0 ≤ r) = L.any p) ∧ Below w.heap.size w w' := by
  obtain ⟨-, hn, hc⟩ := rows_bound hv
  unfold maxLen at hc
  have HV := Lib.hid hv
  have HL := Lib.hid hl
  clear hv hl
  go_enter Tryz.func130, Tryz.ntmps130
  go_wp2
  go_loopw [5, 8] (fun _ i wr => ∃ k : Nat, k ≤ L.length ∧ i = .int .i64 k ∧ NoneTo p L k ∧ Below w.heap.size w wr) (fun _ i _ => L.length - (intOf i).toNat)
  case atStart => exact ⟨0, Nat.zero_le _, rfl, NoneTo.zero _ _, Below.refl _ _⟩
  case round =>
    obtain ⟨k, hk, rfl, hst, hb⟩ := hrel
    by_cases hlt : k < L.length
    · obtain ⟨x, hx⟩ : ∃ x, L[k]? = some x := ⟨L[k], List.getElem?_eq_getElem hlt⟩
      have hk0 : (0 : Int) ≤ (k : Int) := by omega
      have hk1 : (k : Int) < (L.length : Int) := by omega
      obtain ⟨b, off, u0, rfl, -, hbl, hat, c0⟩ := rows_at1 strD_length HV.out hx
      obtain ⟨rfl, -⟩ := str_open hat
      replace c0 := (hb.cell (p := ⟨b, off + k, none⟩) hbl).trans c0
      have HX := Lib.hid (HL.out x (List.mem_of_getElem? hx) _ hb)
      have HN := Lib.hid (And.intro hx hst)
      clear hx hst hat
      go_wp2_with fail
      refine HX.out.mono ?_
      rintro e w2 ⟨rfl, hb1⟩
      have hb2 := hb.trans (hb1.mono hb.size)
      clear hb1 c0
      cases hs : p x
      · have HB := Lib.hid (HN.out.2.next HN.out.1 hs)
        clear hs
        go_wp2
        go_roundw
        case rel => exact ⟨k + 1, by omega, by go_num, HB.out, hb2⟩
        case measure => simp [intOf]; omega
      · have HB := Lib.hid (any_bad HN.out.1 hs)
        clear hs
        go_wp2
        go_ret
        exact ⟨⟨_, rfl, by rw [HB.out]; simp⟩, hb2⟩
    · obtain rfl : k = L.length := by omega
      have HB := Lib.hid hst.end_
      clear hst
      go_wp2
      go_ret
      exact ⟨⟨-1, rfl, by rw [HB.out]; rfl⟩, hb⟩
set_option maxRecDepth 20000 in
theorem conFn (F : FuncId) (p : ByteArray → Bool) (fv : Array Value) (L : List ByteArray) (A : Option Addr) (cap : Nat) (w : World) (hl : ∀ x ∈ L, ∀ W, Below w.heap.size w W → Calls Tryz.prog F (#[.string x] ++ fv) W fun e W' => e = .returned (.bool (p x)) ∧ Below W.heap.size W W')
    (hF : ∀ args w, (callFunc F args).run Tryz.prog w = .ok (.enter F args) w) (hv : D.At w anyB (strs L) (.slice A L.length cap)) :
    Calls Tryz.prog 80 #[.slice A L.length cap, .func (.func F) #[] fv] w fun e w' => e = .returned (.bool (L.any p)) ∧ Below w.heap.size w w' := by
  have H := Lib.hid (idxFn F p fv L A cap w hl hF hv)
  clear hl hv
  go_enter Tryz.func80, Tryz.ntmps80
  go_wp2_with fail
  refine H.out.mono ?_
  rintro e w1 ⟨⟨r, rfl, hr⟩, hb⟩
  have HR := Lib.hid hr
  clear hr
  by_cases h0 : 0 ≤ r
  all_goals
    go_wp2
    go_ret
    exact ⟨ret_eq (by rw [← HR.out]; simp [h0]), hb⟩
theorem face1_i (s : ByteArray) (hs : s.size ≤ maxLen) (w : World) : Calls Tryz.prog 81 #[.string s] w fun e w' => e = .returned (.bool (!nameOk s)) ∧ Below w.heap.size w w' := by
  have H := Lib.hid (nameOk_i s hs w)
  obtain ⟨R, hR⟩ : ∃ R, nameOk s = R := ⟨_, rfl⟩
  rw [hR] at H ⊢
  clear hR
  go_enter Tryz.func81, Tryz.ntmps81
  go_wp2_with fail
  refine H.out.mono ?_
  rintro e w1 ⟨rfl, hb⟩
  go_wp2
  exact bodyPost_ret (v := .bool (!R)) (by simp [results, Tryz.results81, go_sem]) rfl ⟨rfl, hb⟩
theorem face2_i (s : ByteArray) (g : Nat) (p0 p1 p2 : ByteArray) (AO : Option Addr) (cO : Nat) (v4 : Value) (L : List ByteArray) (w : World) (hb : Box w g 37 [.string p0, .string p1, .string p2, .slice AO L.length cO, v4]) (hL : D.At w anyB (strs L) (.slice AO L.length cO)) :
    Calls Tryz.prog 84 #[.string s, .pointer (some ⟨g, 0, none⟩)] w fun e w' => e = .returned (.bool (!memS L s)) ∧ Below w.heap.size w w' := by
  have H := Lib.hid (contains_i L s AO cO w hL)
  obtain ⟨R, hR⟩ : ∃ R, memS L s = R := ⟨_, rfl⟩
  rw [hR] at H ⊢
  have kA := hb.cell
  clear hR hL
  go_enter Tryz.func84, Tryz.ntmps84
  go_wp2_with fail
  refine H.out.mono ?_
  rintro e w1 ⟨rfl, rfl⟩
  go_wp2
  exact bodyPost_ret (v := .bool (!R)) (by simp [results, Tryz.results84, go_sem]) rfl ⟨rfl, Below.refl _ _⟩
end Go.Proofs.YtpfkhojhkjaafaaGreatDoor
