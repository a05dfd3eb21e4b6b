/- A valid part's form: what its kind says of its name, its labels, its kids. No program in sight. -/
import Derived.Test.YtmhnendajefakaaTextP
namespace Go.Proofs.Ytmhnendajefakaa
open Go.RowKit

theorem shape_open {k : Int} {n : ByteArray} {l : List ByteArray} {kids : List Ty} (h : shape (.mk k n l kids) = true) :
    (isNamed k = true ∧ isLabelled k = false ∧ n.toList ≠ [] ∧ nameOk n = true ∧ l = [] ∧ kids = [] ∧ 20 ≤ k ∧ k ≤ 21) ∨
    (isNamed k = false ∧ isLabelled k = true ∧ n = ⟨#[]⟩ ∧ 0 < l.length ∧ l.length ≤ 16 ∧ (kids = [] ∨ kids.length = l.length) ∧ 16 ≤ k ∧ k ≤ 19) ∨
    (isNamed k = false ∧ isLabelled k = false ∧ n = ⟨#[]⟩ ∧ l = [] ∧ 0 < kids.length ∧ 11 < k ∧ k ≠ 20 ∧ k ≠ 21 ∧ ¬ (16 ≤ k ∧ k ≤ 19) ∧ k ≤ 23) ∨
    (isNamed k = false ∧ isLabelled k = false ∧ n = ⟨#[]⟩ ∧ l = [] ∧ kids = [] ∧ 1 ≤ k ∧ k ≤ 11) := by
  unfold shape at h
  simp only [Bool.and_eq_true] at h
  obtain ⟨h1, h2, h3, h4, h5⟩ := h
  have hN : isNamed k = true ↔ (k = 20 ∨ k = 21) := by unfold isNamed; simp
  have hL : isLabelled k = true ↔ (16 ≤ k ∧ k ≤ 19) := by unfold isLabelled inR; simp
  have nempty : n.toList.isEmpty = true → n = ⟨#[]⟩ := by
    intro e
    rw [List.isEmpty_iff, ByteArray.toList_eq] at e
    exact ByteArray.ext (Array.toList_inj.1 e)
  have kfit : kidsFit k l.length kids = true := h5
  unfold kidsFit at kfit
  by_cases c1 : k = 20 ∨ k = 21
  · have n1 := hN.2 c1
    have l1 : isLabelled k = false := by rw [← Bool.not_eq_true, hL]; omega
    rw [n1] at h1 h2
    rw [l1] at h3
    left
    rw [if_neg (by omega), if_neg (by omega), if_neg (by omega), if_neg (by omega), if_neg (by omega), if_neg (by omega)] at kfit
    simp only [Bool.and_eq_true, beq_iff_eq] at kfit
    refine ⟨n1, l1, ?_, by simpa using h2, ?_, List.eq_nil_of_length_eq_zero kfit.2, by omega, by omega⟩
    · intro e
      rw [e] at h1
      simp at h1
    · simp only [beq_iff_eq] at h3
      have := h3.symm
      rw [decide_eq_false_iff_not] at this
      exact List.eq_nil_of_length_eq_zero (by omega)
  · have n1 : isNamed k = false := by rw [← Bool.not_eq_true, hN]; exact c1
    rw [n1] at h1
    have hn : n = ⟨#[]⟩ := nempty (by simpa using h1)
    right
    by_cases c2 : 16 ≤ k ∧ k ≤ 19
    · have l1 := hL.2 c2
      rw [l1] at h3 h4
      left
      have hl : 0 < l.length := by simp only [beq_iff_eq] at h3; exact of_decide_eq_true h3.symm
      refine ⟨n1, l1, hn, hl, ?_, ?_, c2.1, c2.2⟩
      · have : labelsOk l = true := by simpa using h4
        unfold labelsOk at this
        simp only [Bool.and_eq_true, decide_eq_true_eq] at this
        exact this.1.2
      · rw [if_neg (by omega), if_neg (by omega), if_neg (by omega), if_neg (by omega)] at kfit
        by_cases c3 : k = 16
        · rw [if_pos c3] at kfit
          simp only [Bool.and_eq_true, beq_iff_eq] at kfit
          exact .inr kfit.1
        · rw [if_neg c3] at kfit
          by_cases c4 : k = 17
          · rw [if_pos c4] at kfit
            exact .inr (by simpa using kfit)
          · rw [if_neg c4] at kfit
            simp only [Bool.and_eq_true, beq_iff_eq] at kfit
            exact .inl (List.eq_nil_of_length_eq_zero kfit.2)
    · have l1 : isLabelled k = false := by rw [← Bool.not_eq_true, hL]; exact c2
      rw [l1] at h3
      have hl : l = [] := by
        simp only [beq_iff_eq] at h3
        have := h3.symm
        rw [decide_eq_false_iff_not] at this
        exact List.eq_nil_of_length_eq_zero (by omega)
      right
      by_cases c3 : 11 < k ∧ k ≤ 23
      · left
        refine ⟨n1, l1, hn, hl, ?_, c3.1, by omega, by omega, c2, c3.2⟩
        by_cases d1 : k = 12 ∨ k = 13
        · rw [if_pos d1] at kfit; simp only [Bool.and_eq_true, beq_iff_eq] at kfit; omega
        · rw [if_neg d1] at kfit
          by_cases d2 : k = 22 ∨ k = 23
          · rw [if_pos d2] at kfit; simp only [Bool.and_eq_true, beq_iff_eq] at kfit; omega
          · rw [if_neg d2] at kfit
            by_cases d3 : k = 14
            · rw [if_pos d3] at kfit; simp only [beq_iff_eq] at kfit; omega
            · rw [if_neg d3, if_pos (by omega)] at kfit
              simp only [Bool.and_eq_true, decide_eq_true_eq] at kfit; omega
      · right
        rw [if_neg (by omega), if_neg (by omega), if_neg (by omega), if_neg (by omega), if_neg (by omega), if_neg (by omega)] at kfit
        simp only [Bool.and_eq_true, beq_iff_eq] at kfit
        have hr : 1 ≤ k ∧ k ≤ 23 := by have := kfit.1; unfold inR at this; simpa using this
        exact ⟨n1, l1, hn, hl, List.eq_nil_of_length_eq_zero kfit.2, by omega, by omega⟩
theorem all_kids {q : Ty → Bool} {k : Int} {n : ByteArray} {l : List ByteArray} {kids : List Ty} (h : Ty.all q (.mk k n l kids) = true) : q (.mk k n l kids) = true ∧ ∀ x ∈ kids, Ty.all q x = true := by
  rw [Ty.all_mk, Bool.and_eq_true] at h
  exact ⟨h.1, fun x hx => List.all_eq_true.1 h.2 x hx⟩
theorem shape_kind {k : Int} {n : ByteArray} {l : List ByteArray} {kids : List Ty} (h : shape (.mk k n l kids) = true) : 1 ≤ k ∧ k ≤ 23 := by
  rcases shape_open h with ⟨-, -, -, -, -, -, a, b⟩ | ⟨-, -, -, -, -, -, a, b⟩ | ⟨-, -, -, -, -, a, -, -, -, b⟩ | ⟨-, -, -, -, -, a, b⟩ <;> omega
end Go.Proofs.Ytmhnendajefakaa
