/- Texts put in one by one, in order and without doubles, are the texts sorted and compacted. No program in sight. The reference puts a text into a row: draft. The reference puts a text into a row: the walk. -/
import Derived.Test.YtklhkdihokgpeaaGreatDoorDistinctP
import Derived.Test.YtklhkdihokgpeaaGreatDoorAppS
import Derived.Deep.QuietTactic
import Derived.BigQuiet
import Derived.Sort.Walk0
namespace Go.Proofs.YtklhkdihokgpeaaGreatDoor
open Go.RowKit

/-- One text put into a row. -/
def putT (s : List UInt8) : List (List UInt8) → List (List UInt8)
  | [] => [s]
  | x :: r => if x = s then x :: r else if s < x then s :: x :: r else x :: putT s r
def Strict (l : List (List UInt8)) : Prop := l.Pairwise fun x y => x < y
theorem putT_mem (s a : List UInt8) (l : List (List UInt8)) : a ∈ putT s l ↔ a = s ∨ a ∈ l := by
  induction l with
  | nil => simp [putT]
  | cons x r ih =>
    unfold putT
    by_cases h : x = s
    · subst h; simp
    · rw [if_neg h]
      by_cases h2 : s < x
      · rw [if_pos h2]; simp
      · rw [if_neg h2, List.mem_cons, ih, List.mem_cons]
        constructor
        · rintro (h | h | h)
          · exact .inr (.inl h)
          · exact .inl h
          · exact .inr (.inr h)
        · rintro (h | h | h)
          · exact .inr (.inl h)
          · exact .inl h
          · exact .inr (.inr h)
theorem putT_strict (s : List UInt8) {l : List (List UInt8)} (h : Strict l) : Strict (putT s l) := by
  induction l with
  | nil => simp [putT, Strict]
  | cons x r ih =>
    have h1 := List.pairwise_cons.1 h
    unfold putT
    by_cases e : x = s
    · rw [if_pos e]; exact h
    · rw [if_neg e]
      by_cases h2 : s < x
      · rw [if_pos h2]
        refine List.pairwise_cons.2 ⟨fun y hy => ?_, h⟩
        rcases List.mem_cons.1 hy with rfl | hy
        · exact h2
        · exact List.lt_trans h2 (h1.1 y hy)
      · rw [if_neg h2]
        refine List.pairwise_cons.2 ⟨fun y hy => ?_, ih h1.2⟩
        rcases (putT_mem s y r).1 hy with rfl | hy
        · exact Classical.byContradiction fun g => e (List.le_antisymm (List.not_lt.1 h2) (List.not_lt.1 g))
        · exact h1.1 y hy
def putAll (l : List (List UInt8)) (ss : List (List UInt8)) : List (List UInt8) := ss.foldl (fun l s => putT s l) l
theorem putAll_strict {l : List (List UInt8)} (h : Strict l) (ss : List (List UInt8)) : Strict (putAll l ss) := by
  induction ss generalizing l with
  | nil => exact h
  | cons s r ih => exact ih (putT_strict s h)
theorem putAll_mem (a : List UInt8) (l ss : List (List UInt8)) : a ∈ putAll l ss ↔ a ∈ l ∨ a ∈ ss := by
  induction ss generalizing l with
  | nil => simp [putAll]
  | cons s r ih =>
    show a ∈ putAll (putT s l) r ↔ _
    rw [ih, putT_mem, List.mem_cons]
    constructor
    · rintro ((h | h) | h)
      · exact .inr (.inl h)
      · exact .inl h
      · exact .inr (.inr h)
    · rintro (h | h | h)
      · exact .inl (.inr h)
      · exact .inl (.inl h)
      · exact .inr h
theorem strict_ext {l m : List (List UInt8)} (hl : Strict l) (hm : Strict m) (h : ∀ a, a ∈ l ↔ a ∈ m) : l = m := by
  have ne : ∀ {x y : List UInt8}, x < y → x ≠ y := fun h e => List.lt_irrefl _ (e ▸ h)
  have nd : ∀ {l : List (List UInt8)}, Strict l → l.Nodup := by
    intro l h
    unfold Strict at h
    unfold List.Nodup
    rw [List.pairwise_iff_getElem] at h ⊢
    exact fun i j hi hj hij => ne (h i j hi hj hij)
  have hn := nd hl
  have hn' := nd hm
  refine List.Perm.eq_of_pairwise (le := fun x y => x < y) (fun a b _ _ h1 h2 => absurd (List.lt_trans h1 h2) (List.lt_irrefl a)) hl hm ?_
  exact (List.perm_ext_iff_of_nodup hn hn').2 h
theorem compact_strict {t : List (List UInt8)} (hs : t.Pairwise fun x y => x ≤ y) : Strict (Lib.compact t) := by
  rw [List.pairwise_iff_getElem] at hs
  unfold Strict Lib.compact Lib.compactUpTo
  refine List.pairwise_map.2 ?_
  have h1 : (List.range t.length).Pairwise fun x y => x < y := List.pairwise_lt_range
  have h2 : ((List.range t.length).filter (Lib.keeps t.toArray)).Pairwise fun x y => x < y := List.Pairwise.sublist List.filter_sublist h1
  refine List.Pairwise.imp_of_mem (fun {i j} hi hj hij => ?_) h2
  obtain ⟨hi1, -⟩ := List.mem_filter.1 hi
  obtain ⟨hj1, hk⟩ := List.mem_filter.1 hj
  have hj2 : j < t.length := List.mem_range.1 hj1
  have hi2 : i < t.length := by omega
  simp only [Lib.keeps, decide_eq_true_eq] at hk
  rcases hk with h0 | h0
  · omega
  · rw [getElem!_pos t.toArray j (by simpa using hj2), getElem!_pos t.toArray (j - 1) (by simp; omega)] at h0
    rw [getElem!_pos t.toArray i (by simpa using hi2), getElem!_pos t.toArray j (by simpa using hj2)]
    simp only [List.getElem_toArray] at h0 ⊢
    have a1 : t[j - 1] ≤ t[j] := hs (j - 1) j (by omega) hj2 (by omega)
    have a2 : t[i] ≤ t[j - 1] := by
      by_cases e : i = j - 1
      · subst e; exact List.le_refl _
      · exact hs i (j - 1) hi2 (by omega) (by omega)
    exact Classical.byContradiction fun g => h0 (List.le_antisymm (List.le_trans (List.not_lt.1 g) a2) a1)
theorem compact_mem {t : List (List UInt8)} (a : List UInt8) : a ∈ Lib.compact t ↔ a ∈ t := by
  unfold Lib.compact Lib.compactUpTo
  constructor
  · intro h
    obtain ⟨j, hj, rfl⟩ := List.mem_map.1 h
    have hj2 : j < t.length := List.mem_range.1 (List.mem_filter.1 hj).1
    rw [getElem!_pos t.toArray j (by simpa using hj2)]
    simp
  · intro h
    obtain ⟨n, hn, e⟩ := List.getElem_of_mem h
    have key : ∀ n (hn : n < t.length), t[n] = a → ∃ j, j < t.length ∧ Lib.keeps t.toArray j = true ∧ t.toArray[j]! = a := by
      intro n
      induction n with
      | zero => exact fun hn e => ⟨0, hn, by simp [Lib.keeps], by rw [getElem!_pos t.toArray 0 (by simpa using hn)]; simpa using e⟩
      | succ n ih =>
        intro hn e
        by_cases h : t[n] = a
        · exact ih (by omega) h
        · refine ⟨n + 1, hn, ?_, by rw [getElem!_pos t.toArray (n + 1) (by simpa using hn)]; simpa using e⟩
          simp only [Lib.keeps, decide_eq_true_eq]
          refine .inr (fun g => h ?_)
          rw [getElem!_pos t.toArray (n + 1) (by simpa using hn), getElem!_pos t.toArray (n + 1 - 1) (by simp; omega)] at g
          simp only [List.getElem_toArray, Nat.add_sub_cancel] at g
          rw [← g, e]
    obtain ⟨j, hj, hk, hv⟩ := key n hn e
    exact List.mem_map.2 ⟨j, List.mem_filter.2 ⟨List.mem_range.2 hj, hk⟩, hv⟩
/-- One by one, or all at once. -/
theorem putAll_sorted (ss : List (List UInt8)) : putAll [] ss = Lib.compact (ss.mergeSort fun x y => decide (x ≤ y)) := by
  have tr : ∀ a b c : List UInt8, decide (a ≤ b) = true → decide (b ≤ c) = true → decide (a ≤ c) = true := fun a b c h1 h2 => by simp only [decide_eq_true_eq] at *; exact List.le_trans h1 h2
  have to : ∀ a b : List UInt8, (decide (a ≤ b) || decide (b ≤ a)) = true := fun a b => by simp only [Bool.or_eq_true, decide_eq_true_eq]; exact List.le_total a b
  have hs := List.pairwise_mergeSort tr to ss
  have hs' : (ss.mergeSort fun x y => decide (x ≤ y)).Pairwise fun x y => x ≤ y := by
    rw [List.pairwise_iff_getElem] at hs ⊢
    exact fun i j hi hj hij => by simpa using hs i j hi hj hij
  refine strict_ext (putAll_strict List.Pairwise.nil ss) (compact_strict hs') (fun a => ?_)
  rw [putAll_mem, compact_mem, (List.mergeSort_perm ss (fun x y => decide (x ≤ y))).mem_iff]
  simp
end Go.Proofs.YtklhkdihokgpeaaGreatDoor
namespace Go.Proofs.YtklhkdihokgpeaaGreatDoor
open Go.RowKit

def ltB (x y : ByteArray) : Bool := decide (x.data.toList < y.data.toList)
def putB (s : ByteArray) : List ByteArray → List ByteArray
  | [] => [s]
  | x :: r => if sameS x s = true then x :: r else if ltB s x = true then s :: x :: r else x :: putB s r
theorem putB_putT (s : ByteArray) (l : List ByteArray) : (putB s l).map (·.data.toList) = putT s.data.toList (l.map (·.data.toList)) := by
  induction l with
  | nil => rfl
  | cons x r ih =>
    unfold putB
    rw [List.map_cons]
    unfold putT
    by_cases h : sameS x s = true
    · rw [if_pos h, if_pos ((sameS_iff x s).1 h)]; rfl
    · rw [if_neg h, if_neg (fun e => h ((sameS_iff x s).2 e))]
      by_cases h2 : s.data.toList < x.data.toList
      · rw [if_pos (show ltB s x = true from decide_eq_true h2), if_pos h2]; rfl
      · rw [if_neg (show ¬ ltB s x = true by unfold ltB; rw [decide_eq_true_eq]; exact h2), if_neg h2, List.map_cons, ih]
/-- Between two rounds: out so far, and whether the text stands in it. -/
def PutTo (s : ByteArray) (l : List ByteArray) (k : Nat) (O : List ByteArray) (p : Bool) : Prop := O ++ (if p = true then l.drop k else putB s (l.drop k)) = putB s l
theorem PutTo.zero (s : ByteArray) (l : List ByteArray) : PutTo s l 0 [] false := by simp [PutTo]
theorem PutTo.next1 {s : ByteArray} {l O : List ByteArray} {k : Nat} {x : ByteArray} (h : PutTo s l k O true) (hx : l[k]? = some x) : PutTo s l (k + 1) (O ++ [x]) true := by
  unfold PutTo at h ⊢
  rw [List.drop_eq_getElem?_toList_append, hx] at h
  simpa using h
theorem PutTo.next2 {s : ByteArray} {l O : List ByteArray} {k : Nat} {x : ByteArray} (h : PutTo s l k O false) (hx : l[k]? = some x) (hs : sameS x s = true) : PutTo s l (k + 1) (O ++ [x]) true := by
  unfold PutTo at h ⊢
  rw [List.drop_eq_getElem?_toList_append, hx] at h
  simp [putB, hs] at h
  simpa using h
theorem PutTo.next3 {s : ByteArray} {l O : List ByteArray} {k : Nat} {x : ByteArray} (h : PutTo s l k O false) (hx : l[k]? = some x) (hs : sameS x s = false) (hl : ltB s x = true) : PutTo s l (k + 1) (O ++ [s] ++ [x]) true := by
  unfold PutTo at h ⊢
  rw [List.drop_eq_getElem?_toList_append, hx] at h
  simp [putB, hs, hl] at h
  simpa using h
theorem PutTo.next4 {s : ByteArray} {l O : List ByteArray} {k : Nat} {x : ByteArray} (h : PutTo s l k O false) (hx : l[k]? = some x) (hs : sameS x s = false) (hl : ltB s x = false) : PutTo s l (k + 1) (O ++ [x]) false := by
  unfold PutTo at h ⊢
  rw [List.drop_eq_getElem?_toList_append, hx] at h
  simp [putB, hs, hl] at h
  simpa using h
theorem PutTo.end1 {s : ByteArray} {l O : List ByteArray} (h : PutTo s l l.length O true) : O = putB s l := by
  unfold PutTo at h; simpa using h
theorem PutTo.end2 {s : ByteArray} {l O : List ByteArray} (h : PutTo s l l.length O false) : O ++ [s] = putB s l := by
  unfold PutTo at h; simpa [putB] using h
end Go.Proofs.YtklhkdihokgpeaaGreatDoor
namespace Go.Proofs.YtklhkdihokgpeaaGreatDoor
open Go.RowKit

theorem less_of {x s : ByteArray} (h : (x.toList == s.toList) = false) : Op.bytesLess x.toList s.toList = !(ltB s x) := by
  rw [bytesLess_eq, byteList, byteList]
  unfold ltB
  have hne : x.data.toList ≠ s.data.toList := fun e => by
    rw [show (x.toList == s.toList) = true from (sameS_iff x s).2 e] at h
    cases h
  by_cases h2 : s.data.toList < x.data.toList
  · rw [decide_eq_true h2, decide_eq_false (fun g => List.lt_irrefl _ (List.lt_trans h2 g))]; rfl
  · rw [decide_eq_false h2, decide_eq_true (Classical.byContradiction fun g => hne (List.le_antisymm (List.not_lt.1 h2) (List.not_lt.1 g)))]; rfl
set_option maxHeartbeats 4000000 in
set_option maxRecDepth 20000 in
theorem l03PutText_s (s : ByteArray) (l : List ByteArray) (hll : l.length ≤ 1000000) (A : Option Addr) (cap : Nat) (w : World) (hv : D.At w anyB (strs l) (.slice A l.length cap)) :
    Calls Tryz.prog 122 #[.slice A l.length cap, .string s] w fun e w' => ∃ v, e = .returned v ∧ w'.ownsRow w.heap.size 9 1 v (putB s l).length ((putB s l).map Value.string) ∧ Below w.heap.size w w' := by
  obtain ⟨-, hn, hc⟩ := rows_bound hv
  unfold maxLen at hc
  have HV := Lib.hid hv
  clear hv
  go_enter Tryz.func122, Tryz.ntmps122
  go_wp2
  go_loopw [5, 6, 7] (fun o p i wr => ∃ (k : Nat) (O : List ByteArray) (b : Bool), k ≤ l.length ∧ i = .int .i64 k ∧ p = .bool b ∧ O.length ≤ 2 * k ∧ PutTo s l k O b ∧ wr.ownsRow w.heap.size 9 1 o O.length (O.map Value.string) ∧ Below w.heap.size w wr) (fun _ _ i _ => l.length - (intOf i).toNat)
  case atStart => exact ⟨0, [], false, Nat.zero_le _, rfl, rfl, by simp, PutTo.zero _ _, World.ownsRow_lit _ _ _ (Nat.le_refl _) (by decide) (by rfl), (Below.refl _ _).alloc (Nat.le_refl _) _⟩
  case round =>
    obtain ⟨k, O, p, hk, rfl, rfl, hO, hst, hown, hb⟩ := hrel
    by_cases hlt : k < l.length
    · obtain ⟨x, hx⟩ : ∃ x, l[k]? = some x := ⟨l[k], List.getElem?_eq_getElem hlt⟩
      have hk0 : (0 : Int) ≤ (k : Int) := by omega
      have hk1 : (k : Int) < (l.length : Int) := by omega
      obtain ⟨b, off, u0, rfl, -, hbl, hat, d0⟩ := rows_at1 strD_length HV.out hx
      obtain ⟨rfl, hxl⟩ := str_open hat
      replace d0 := (hb.cell (p := ⟨b, off + k, none⟩) hbl).trans d0
      have hl2 : O.length + 1 ≤ 8796093022208 := by omega
      have hbs := hb.size
      have HX := Lib.hid hx
      clear hx hat
      cases p
      · cases h1 : (x.toList == s.toList)
        · cases h2 : ltB s x
          · have h2' : Op.bytesLess x.toList s.toList = true := by rw [less_of h1, h2]; rfl
            have HN := Lib.hid (hst.next4 HX.out (show sameS x s = false from h1) h2)
            have HB := Lib.hid hb
            clear hst
            go_wp2_with (at_builtin; refine wpList_str hown x (.tmp 35) (.tmp 40) hl2 hbs wr.heap.size rfl ?_; intro v' w' ho' hb')
            have hb6 := HB.out.trans hb'
            clear hown hb' hb
            go_wp2
            go_roundw
            case rel => exact ⟨k + 1, O ++ [x], false, by omega, by go_num, rfl, by simp; omega, HN.out, by simpa using ho', hb6⟩
            case measure => simp [intOf]; omega
          · have h2' : Op.bytesLess x.toList s.toList = false := by rw [less_of h1, h2]; rfl
            have HN := Lib.hid (hst.next3 HX.out (show sameS x s = false from h1) h2)
            clear hst
            have hl3 : O.length + 1 + 1 ≤ 8796093022208 := by omega
            go_wp2_with (first | (at_builtin; refine wpList_str hown s (.tmp 31) (.tmp 33) hl2 hbs wr.heap.size rfl ?_; intro v1 w1 ho1 hb1; have hb2 := hb.trans hb1; have d1 := (hb1.cell (p := ⟨b, off + k, none⟩) hbl).trans d0; have hbs1 := hb2.size) | (at_builtin; refine wpList_str ho1 x (.tmp 35) (.tmp 40) hl3 hbs1 w1.heap.size rfl ?_; intro v' w' ho' hb'))
            have hb6 := hb2.trans hb'
            clear hown hb1 hb d0 d1 hb2 ho1 hb'
            go_wp2
            go_roundw
            case rel => exact ⟨k + 1, O ++ [s] ++ [x], true, by omega, by go_num, rfl, by simp; omega, HN.out, by simpa using ho', hb6⟩
            case measure => simp [intOf]; omega
        · have HN := Lib.hid (hst.next2 HX.out (show sameS x s = true from h1))
          have HB := Lib.hid hb
          clear hst
          go_wp2_with (at_builtin; refine wpList_str hown x (.tmp 35) (.tmp 40) hl2 hbs wr.heap.size rfl ?_; intro v' w' ho' hb')
          have hb6 := HB.out.trans hb'
          clear hown hb' hb
          go_wp2
          go_roundw
          case rel => exact ⟨k + 1, O ++ [x], true, by omega, by go_num, rfl, by simp; omega, HN.out, by simpa using ho', hb6⟩
          case measure => simp [intOf]; omega
      · cases h1 : (x.toList == s.toList)
        all_goals
          have HN := Lib.hid (hst.next1 HX.out)
          have HB := Lib.hid hb
          clear hst
          go_wp2_with (at_builtin; refine wpList_str hown x (.tmp 35) (.tmp 40) hl2 hbs wr.heap.size rfl ?_; intro v' w' ho' hb')
          have hb6 := HB.out.trans hb'
          clear hown hb' hb
          go_wp2
          go_roundw
          case rel => exact ⟨k + 1, O ++ [x], true, by omega, by go_num, rfl, by simp; omega, HN.out, by simpa using ho', hb6⟩
          case measure => simp [intOf]; omega
    · obtain rfl : k = l.length := by omega
      cases p
      · have hl2 : O.length + 1 ≤ 8796093022208 := by omega
        have hbs := hb.size
        have HN := Lib.hid hst.end2
        have HB := Lib.hid hb
        clear hst
        go_wp2_with (at_builtin; refine wpList_str hown s (.tmp 44) (.tmp 46) hl2 hbs wr.heap.size rfl ?_; intro v' w' ho' hb')
        have hb6 := HB.out.trans hb'
        clear hown hb' hb
        go_wp2
        go_ret
        exact ⟨v', rfl, by rw [← HN.out]; simpa using ho', hb6⟩
      · have HN := Lib.hid hst.end1
        have HO := Lib.hid hown
        clear hst hown
        go_wp2
        go_ret
        exact ⟨_, rfl, by rw [← HN.out]; exact HO.out, hb⟩
end Go.Proofs.YtklhkdihokgpeaaGreatDoor
