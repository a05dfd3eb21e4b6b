/- Texts put in one by one, in order and without doubles, are the texts sorted and compacted. No program in sight. -/
import Derived.Test.YtpfkhojhkjaafaaGreatDoorDistinctP
namespace Go.Proofs.YtpfkhojhkjaafaaGreatDoor
open Go.RowKit

/-- One text put into a row. -/
def putT (s : List UInt8) : List (List UInt8) → List (List UInt8)
  | [] => [s]
  | x :: r => if x = s then x :: r else if s < x then s :: x :: r else x :: putT s r
def Strict (l : List (List UInt8)) : Prop := l.Pairwise fun x y => x < y
theorem putT_mem (s a : List UInt8) (l : List (List UInt8)) : a ∈ putT s l ↔ a = s ∨ a ∈ l := by
  induction l with
  | nil => simp [putT]
  | cons x r ih =>
    unfold putT
    by_cases h : x = s
    · subst h; simp
    · rw [if_neg h]
      by_cases h2 : s < x
      · rw [if_pos h2]; simp
      · rw [if_neg h2, List.mem_cons, ih, List.mem_cons]
        constructor
        · rintro (h | h | h)
          · exact .inr (.inl h)
          · exact .inl h
          · exact .inr (.inr h)
        · rintro (h | h | h)
          · exact .inr (.inl h)
          · exact .inl h
          · exact .inr (.inr h)
theorem putT_strict (s : List UInt8) {l : List (List UInt8)} (h : Strict l) : Strict (putT s l) := by
  induction l with
  | nil => simp [putT, Strict]
  | cons x r ih =>
    have h1 := List.pairwise_cons.1 h
    unfold putT
    by_cases e : x = s
    · rw [if_pos e]; exact h
    · rw [if_neg e]
      by_cases h2 : s < x
      · rw [if_pos h2]
        refine List.pairwise_cons.2 ⟨fun y hy => ?_, h⟩
        rcases List.mem_cons.1 hy with rfl | hy
        · exact h2
        · exact List.lt_trans h2 (h1.1 y hy)
      · rw [if_neg h2]
        refine List.pairwise_cons.2 ⟨fun y hy => ?_, ih h1.2⟩
        rcases (putT_mem s y r).1 hy with rfl | hy
        · exact Classical.byContradiction fun g => e (List.le_antisymm (List.not_lt.1 h2) (List.not_lt.1 g))
        · exact h1.1 y hy
def putAll (l : List (List UInt8)) (ss : List (List UInt8)) : List (List UInt8) := ss.foldl (fun l s => putT s l) l
theorem putAll_strict {l : List (List UInt8)} (h : Strict l) (ss : List (List UInt8)) : Strict (putAll l ss) := by
  induction ss generalizing l with
  | nil => exact h
  | cons s r ih => exact ih (putT_strict s h)
theorem putAll_mem (a : List UInt8) (l ss : List (List UInt8)) : a ∈ putAll l ss ↔ a ∈ l ∨ a ∈ ss := by
  induction ss generalizing l with
  | nil => simp [putAll]
  | cons s r ih =>
    show a ∈ putAll (putT s l) r ↔ _
    rw [ih, putT_mem, List.mem_cons]
    constructor
    · rintro ((h | h) | h)
      · exact .inr (.inl h)
      · exact .inl h
      · exact .inr (.inr h)
    · rintro (h | h | h)
      · exact .inl (.inr h)
      · exact .inl (.inl h)
      · exact .inr h
theorem strict_ext {l m : List (List UInt8)} (hl : Strict l) (hm : Strict m) (h : ∀ a, a ∈ l ↔ a ∈ m) : l = m := by
  have ne : ∀ {x y : List UInt8}, x < y → x ≠ y := fun h e => List.lt_irrefl _ (e ▸ h)
  have nd : ∀ {l : List (List UInt8)}, Strict l → l.Nodup := by
    intro l h
    unfold Strict at h
    unfold List.Nodup
    rw [List.pairwise_iff_getElem] at h ⊢
    exact fun i j hi hj hij => ne (h i j hi hj hij)
  have hn := nd hl
  have hn' := nd hm
  refine List.Perm.eq_of_pairwise (le := fun x y => x < y) (fun a b _ _ h1 h2 => absurd (List.lt_trans h1 h2) (List.lt_irrefl a)) hl hm ?_
  exact (List.perm_ext_iff_of_nodup hn hn').2 h
theorem compact_strict {t : List (List UInt8)} (hs : t.Pairwise fun x y => x ≤ y) : Strict (Lib.compact t) := by
  rw [List.pairwise_iff_getElem] at hs
  unfold Strict Lib.compact Lib.compactUpTo
  refine List.pairwise_map.2 ?_
  have h1 : (List.range t.length).Pairwise fun x y => x < y := List.pairwise_lt_range
  have h2 : ((List.range t.length).filter (Lib.keeps t.toArray)).Pairwise fun x y => x < y := List.Pairwise.sublist List.filter_sublist h1
  refine List.Pairwise.imp_of_mem (fun {i j} hi hj hij => ?_) h2
  obtain ⟨hi1, -⟩ := List.mem_filter.1 hi
  obtain ⟨hj1, hk⟩ := List.mem_filter.1 hj
  have hj2 : j < t.length := List.mem_range.1 hj1
  have hi2 : i < t.length := by omega
  simp only [Lib.keeps, decide_eq_true_eq] at hk
  rcases hk with h0 | h0
  · omega
  · rw [getElem!_pos t.toArray j (by simpa using hj2), getElem!_pos t.toArray (j - 1) (by simp; omega)] at h0
    rw [getElem!_pos t.toArray i (by simpa using hi2), getElem!_pos t.toArray j (by simpa using hj2)]
    simp only [List.getElem_toArray] at h0 ⊢
    have a1 : t[j - 1] ≤ t[j] := hs (j - 1) j (by omega) hj2 (by omega)
    have a2 : t[i] ≤ t[j - 1] := by
      by_cases e : i = j - 1
      · subst e; exact List.le_refl _
      · exact hs i (j - 1) hi2 (by omega) (by omega)
    exact Classical.byContradiction fun g => h0 (List.le_antisymm (List.le_trans (List.not_lt.1 g) a2) a1)
theorem compact_mem {t : List (List UInt8)} (a : List UInt8) : a ∈ Lib.compact t ↔ a ∈ t := by
  unfold Lib.compact Lib.compactUpTo
  constructor
  · intro h
    obtain ⟨j, hj, rfl⟩ := List.mem_map.1 h
    have hj2 : j < t.length := List.mem_range.1 (List.mem_filter.1 hj).1
    rw [getElem!_pos t.toArray j (by simpa using hj2)]
    simp
  · intro h
    obtain ⟨n, hn, e⟩ := List.getElem_of_mem h
    have key : ∀ n (hn : n < t.length), t[n] = a → ∃ j, j < t.length ∧ Lib.keeps t.toArray j = true ∧ t.toArray[j]! = a := by
      intro n
      induction n with
      | zero => exact fun hn e => ⟨0, hn, by simp [Lib.keeps], by rw [getElem!_pos t.toArray 0 (by simpa using hn)]; simpa using e⟩
      | succ n ih =>
        intro hn e
        by_cases h : t[n] = a
        · exact ih (by omega) h
        · refine ⟨n + 1, hn, ?_, by rw [getElem!_pos t.toArray (n + 1) (by simpa using hn)]; simpa using e⟩
          simp only [Lib.keeps, decide_eq_true_eq]
          refine .inr (fun g => h ?_)
          rw [getElem!_pos t.toArray (n + 1) (by simpa using hn), getElem!_pos t.toArray (n + 1 - 1) (by simp; omega)] at g
          simp only [List.getElem_toArray, Nat.add_sub_cancel] at g
          rw [← g, e]
    obtain ⟨j, hj, hk, hv⟩ := key n hn e
    exact List.mem_map.2 ⟨j, List.mem_filter.2 ⟨List.mem_range.2 hj, hk⟩, hv⟩
/-- One by one, or all at once. -/
theorem putAll_sorted (ss : List (List UInt8)) : putAll [] ss = Lib.compact (ss.mergeSort fun x y => decide (x ≤ y)) := by
  have tr : ∀ a b c : List UInt8, decide (a ≤ b) = true → decide (b ≤ c) = true → decide (a ≤ c) = true := fun a b c h1 h2 => by simp only [decide_eq_true_eq] at *; exact List.le_trans h1 h2
  have to : ∀ a b : List UInt8, (decide (a ≤ b) || decide (b ≤ a)) = true := fun a b => by simp only [Bool.or_eq_true, decide_eq_true_eq]; exact List.le_total a b
  have hs := List.pairwise_mergeSort tr to ss
  have hs' : (ss.mergeSort fun x y => decide (x ≤ y)).Pairwise fun x y => x ≤ y := by
    rw [List.pairwise_iff_getElem] at hs ⊢
    exact fun i j hi hj hij => by simpa using hs i j hi hj hij
  refine strict_ext (putAll_strict List.Pairwise.nil ss) (compact_strict hs') (fun a => ?_)
  rw [putAll_mem, compact_mem, (List.mergeSort_perm ss (fun x y => decide (x ≤ y))).mem_iff]
  simp
end Go.Proofs.YtpfkhojhkjaafaaGreatDoor
