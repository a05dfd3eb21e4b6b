/- The reference puts a text into a row: draft. The reference puts a text into a row: the walk. -/
import Derived.Test.YtpfkhojhkjaafaaGreatDoorResP
import Derived.Test.YtpfkhojhkjaafaaGreatDoorAppS
import Derived.Deep.QuietTactic
import Derived.BigQuiet
import Derived.Sort.Walk0
namespace Go.Proofs.YtpfkhojhkjaafaaGreatDoor
open Go.RowKit

def ltB (x y : ByteArray) : Bool := decide (x.data.toList < y.data.toList)
def putB (s : ByteArray) : List ByteArray → List ByteArray
  | [] => [s]
  | x :: r => if sameS x s = true then x :: r else if ltB s x = true then s :: x :: r else x :: putB s r
theorem putB_putT (s : ByteArray) (l : List ByteArray) : (putB s l).map (·.data.toList) = putT s.data.toList (l.map (·.data.toList)) := by
  induction l with
  | nil => rfl
  | cons x r ih =>
    unfold putB
    rw [List.map_cons]
    unfold putT
    by_cases h : sameS x s = true
    · rw [if_pos h, if_pos ((sameS_iff x s).1 h)]; rfl
    · rw [if_neg h, if_neg (fun e => h ((sameS_iff x s).2 e))]
      by_cases h2 : s.data.toList < x.data.toList
      · rw [if_pos (show ltB s x = true from decide_eq_true h2), if_pos h2]; rfl
      · rw [if_neg (show ¬ ltB s x = true by unfold ltB; rw [decide_eq_true_eq]; exact h2), if_neg h2, List.map_cons, ih]
/-- Between two rounds: out so far, and whether the text stands in it. -/
def PutTo (s : ByteArray) (l : List ByteArray) (k : Nat) (O : List ByteArray) (p : Bool) : Prop := O ++ (if p = true then l.drop k else putB s (l.drop k)) = putB s l
theorem PutTo.zero (s : ByteArray) (l : List ByteArray) : PutTo s l 0 [] false := by simp [PutTo]
theorem PutTo.next1 {s : ByteArray} {l O : List ByteArray} {k : Nat} {x : ByteArray} (h : PutTo s l k O true) (hx : l[k]? = some x) : PutTo s l (k + 1) (O ++ [x]) true := by
  unfold PutTo at h ⊢
  rw [List.drop_eq_getElem?_toList_append, hx] at h
  simpa using h
theorem PutTo.next2 {s : ByteArray} {l O : List ByteArray} {k : Nat} {x : ByteArray} (h : PutTo s l k O false) (hx : l[k]? = some x) (hs : sameS x s = true) : PutTo s l (k + 1) (O ++ [x]) true := by
  unfold PutTo at h ⊢
  rw [List.drop_eq_getElem?_toList_append, hx] at h
  simp [putB, hs] at h
  simpa using h
theorem PutTo.next3 {s : ByteArray} {l O : List ByteArray} {k : Nat} {x : ByteArray} (h : PutTo s l k O false) (hx : l[k]? = some x) (hs : sameS x s = false) (hl : ltB s x = true) : PutTo s l (k + 1) (O ++ [s] ++ [x]) true := by
  unfold PutTo at h ⊢
  rw [List.drop_eq_getElem?_toList_append, hx] at h
  simp [putB, hs, hl] at h
  simpa using h
theorem PutTo.next4 {s : ByteArray} {l O : List ByteArray} {k : Nat} {x : ByteArray} (h : PutTo s l k O false) (hx : l[k]? = some x) (hs : sameS x s = false) (hl : ltB s x = false) : PutTo s l (k + 1) (O ++ [x]) false := by
  unfold PutTo at h ⊢
  rw [List.drop_eq_getElem?_toList_append, hx] at h
  simp [putB, hs, hl] at h
  simpa using h
theorem PutTo.end1 {s : ByteArray} {l O : List ByteArray} (h : PutTo s l l.length O true) : O = putB s l := by
  unfold PutTo at h; simpa using h
theorem PutTo.end2 {s : ByteArray} {l O : List ByteArray} (h : PutTo s l l.length O false) : O ++ [s] = putB s l := by
  unfold PutTo at h; simpa [putB] using h
end Go.Proofs.YtpfkhojhkjaafaaGreatDoor
namespace Go.Proofs.YtpfkhojhkjaafaaGreatDoor
open Go.RowKit

theorem less_of {x s : ByteArray} (h : (x.toList == s.toList) = false) : Op.bytesLess x.toList s.toList = !(ltB s x) := by
  rw [bytesLess_eq, byteList, byteList]
  unfold ltB
  have hne : x.data.toList ≠ s.data.toList := fun e => by
    rw [show (x.toList == s.toList) = true from (sameS_iff x s).2 e] at h
    cases h
  by_cases h2 : s.data.toList < x.data.toList
  · rw [decide_eq_true h2, decide_eq_false (fun g => List.lt_irrefl _ (List.lt_trans h2 g))]; rfl
  · rw [decide_eq_false h2, decide_eq_true (Classical.byContradiction fun g => hne (List.le_antisymm (List.not_lt.1 h2) (List.not_lt.1 g)))]; rfl
set_option maxHeartbeats 4000000 in
set_option maxRecDepth 20000 in
theorem l03PutText_s (s : ByteArray) (l : List ByteArray) (hll : l.length ≤ 1000000) (A : Option Addr) (cap : Nat) (w : World) (hv : D.At w anyB (strs l) (.slice A l.length cap)) :
    Calls Tryz.prog 162 #[.slice A l.length cap, .string s] w fun e w' => ∃ v, e = .returned v ∧ w'.ownsRow w.heap.size 9 1 v (putB s l).length ((putB s l).map Value.string) ∧ Below w.heap.size w w' := by
  obtain ⟨-, hn, hc⟩ := rows_bound hv
  unfold maxLen at hc
  have HV := Lib.hid hv
  clear hv
  go_enter Tryz.func162, Tryz.ntmps162
  go_wp2
  go_loopw [5, 6, 7] (fun o p i wr => ∃ (k : Nat) (O : List ByteArray) (b : Bool), k ≤ l.length ∧ i = .int .i64 k ∧ p = .bool b ∧ O.length ≤ 2 * k ∧ PutTo s l k O b ∧ wr.ownsRow w.heap.size 9 1 o O.length (O.map Value.string) ∧ Below w.heap.size w wr) (fun _ _ i _ => l.length - (intOf i).toNat)
  case atStart => exact ⟨0, [], false, Nat.zero_le _, rfl, rfl, by simp, PutTo.zero _ _, World.ownsRow_lit _ _ _ (Nat.le_refl _) (by decide) (by rfl), (Below.refl _ _).alloc (Nat.le_refl _) _⟩
  case round =>
    obtain ⟨k, O, p, hk, rfl, rfl, hO, hst, hown, hb⟩ := hrel
    by_cases hlt : k < l.length
    · obtain ⟨x, hx⟩ : ∃ x, l[k]? = some x := ⟨l[k], List.getElem?_eq_getElem hlt⟩
      have hk0 : (0 : Int) ≤ (k : Int) := by omega
      have hk1 : (k : Int) < (l.length : Int) := by omega
      obtain ⟨b, off, u0, rfl, -, hbl, hat, d0⟩ := rows_at1 strD_length HV.out hx
      obtain ⟨rfl, hxl⟩ := str_open hat
      replace d0 := (hb.cell (p := ⟨b, off + k, none⟩) hbl).trans d0
      have hl2 : O.length + 1 ≤ 8796093022208 := by omega
      have hbs := hb.size
      have HX := Lib.hid hx
      clear hx hat
      cases p
      · cases h1 : (x.toList == s.toList)
        · cases h2 : ltB s x
          · have h2' : Op.bytesLess x.toList s.toList = true := by rw [less_of h1, h2]; rfl
            have HN := Lib.hid (hst.next4 HX.out (show sameS x s = false from h1) h2)
            have HB := Lib.hid hb
            clear hst
            go_wp2_with (at_builtin; refine wpList_str hown x (.tmp 35) (.tmp 40) hl2 hbs wr.heap.size rfl ?_; intro v' w' ho' hb')
            have hb6 := HB.out.trans hb'
            clear hown hb' hb
            go_wp2
            go_roundw
            case rel => exact ⟨k + 1, O ++ [x], false, by omega, by go_num, rfl, by simp; omega, HN.out, by simpa using ho', hb6⟩
            case measure => simp [intOf]; omega
          · have h2' : Op.bytesLess x.toList s.toList = false := by rw [less_of h1, h2]; rfl
            have HN := Lib.hid (hst.next3 HX.out (show sameS x s = false from h1) h2)
            clear hst
            have hl3 : O.length + 1 + 1 ≤ 8796093022208 := by omega
            go_wp2_with (first | (at_builtin; refine wpList_str hown s (.tmp 31) (.tmp 33) hl2 hbs wr.heap.size rfl ?_; intro v1 w1 ho1 hb1; have hb2 := hb.trans hb1; have d1 := (hb1.cell (p := ⟨b, off + k, none⟩) hbl).trans d0; have hbs1 := hb2.size) | (at_builtin; refine wpList_str ho1 x (.tmp 35) (.tmp 40) hl3 hbs1 w1.heap.size rfl ?_; intro v' w' ho' hb'))
            have hb6 := hb2.trans hb'
            clear hown hb1 hb d0 d1 hb2 ho1 hb'
            go_wp2
            go_roundw
            case rel => exact ⟨k + 1, O ++ [s] ++ [x], true, by omega, by go_num, rfl, by simp; omega, HN.out, by simpa using ho', hb6⟩
            case measure => simp [intOf]; omega
        · have HN := Lib.hid (hst.next2 HX.out (show sameS x s = true from h1))
          have HB := Lib.hid hb
          clear hst
          go_wp2_with (at_builtin; refine wpList_str hown x (.tmp 35) (.tmp 40) hl2 hbs wr.heap.size rfl ?_; intro v' w' ho' hb')
          have hb6 := HB.out.trans hb'
          clear hown hb' hb
          go_wp2
          go_roundw
          case rel => exact ⟨k + 1, O ++ [x], true, by omega, by go_num, rfl, by simp; omega, HN.out, by simpa using ho', hb6⟩
          case measure => simp [intOf]; omega
      · cases h1 : (x.toList == s.toList)
        all_goals
          have HN := Lib.hid (hst.next1 HX.out)
          have HB := Lib.hid hb
          clear hst
          go_wp2_with (at_builtin; refine wpList_str hown x (.tmp 35) (.tmp 40) hl2 hbs wr.heap.size rfl ?_; intro v' w' ho' hb')
          have hb6 := HB.out.trans hb'
          clear hown hb' hb
          go_wp2
          go_roundw
          case rel => exact ⟨k + 1, O ++ [x], true, by omega, by go_num, rfl, by simp; omega, HN.out, by simpa using ho', hb6⟩
          case measure => simp [intOf]; omega
    · obtain rfl : k = l.length := by omega
      cases p
      · have hl2 : O.length + 1 ≤ 8796093022208 := by omega
        have hbs := hb.size
        have HN := Lib.hid hst.end2
        have HB := Lib.hid hb
        clear hst
        go_wp2_with (at_builtin; refine wpList_str hown s (.tmp 44) (.tmp 46) hl2 hbs wr.heap.size rfl ?_; intro v' w' ho' hb')
        have hb6 := HB.out.trans hb'
        clear hown hb' hb
        go_wp2
        go_ret
        exact ⟨v', rfl, by rw [← HN.out]; simpa using ho', hb6⟩
      · have HN := Lib.hid hst.end1
        have HO := Lib.hid hown
        clear hst hown
        go_wp2
        go_ret
        exact ⟨_, rfl, by rw [← HN.out]; exact HO.out, hb⟩
end Go.Proofs.YtpfkhojhkjaafaaGreatDoor
