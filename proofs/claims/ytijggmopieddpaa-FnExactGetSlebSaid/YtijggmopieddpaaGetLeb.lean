/- GetLeb: what the program's and the reference's function compute, and the law. -/
import Derived.Test.YtijggmopieddpaaLebLaw
import Derived.Deep.QuietTactic
import Derived.BigQuiet
namespace Go.Proofs.Ytijggmopieddpaa
open Go.RowKit

theorem at_byte (s : ByteArray) (k : Nat) (h : k < s.size) : s.data.toList.getD k 0 = s[k] := by
  rw [List.getD_eq_getElem?_getD, List.getElem?_eq_getElem (by simpa using h)]
  rfl

/-- The number at the head: its value, and how many bytes it has. -/
def lebHead (l : List UInt8) : Nat × Nat := (if lebLen 9 l = 0 then 0 else lebVal (l.take (lebLen 9 l)), lebLen 9 l)

/-- So far every byte has a mark. -/
def Marked (s : ByteArray) (k : Nat) : Prop := ∀ i, i < k → 128 ≤ (s.data.toList.getD i 0).toNat
theorem Marked.next {s : ByteArray} {k : Nat} (h : Marked s k) (hk : k < s.size) (hc : ¬ (s[k].toNat : Int) < 128) : Marked s (k + 1) := by
  intro i hi
  by_cases e : i = k
  · subst e; rw [at_byte s _ hk]; omega
  · exact h i (by omega)
theorem Marked.found {s : ByteArray} {k : Nat} (h : Marked s k) (hk : k < s.size) (h9 : k < 9) (hc : (s[k].toNat : Int) < 128) : lebLen 9 s.data.toList = k + 1 :=
  lebLen_some h9 (by simpa using hk) (by rw [at_byte s _ hk]; omega) h
theorem Marked.none_ {s : ByteArray} {k : Nat} (h : Marked s k) (hk : ¬ (k < s.size ∧ k < 9)) : lebLen 9 s.data.toList = 0 :=
  lebLen_none (fun i h1 h2 => h i (by simp at h2; omega))

theorem lebLen_spec {f : Nat} {l : List UInt8} {m : Nat} (h : lebLen f l = m + 1) : m < l.length ∧ m < f ∧ (l.getD m 0).toNat < 128 ∧ ∀ i, i < m → 128 ≤ (l.getD i 0).toNat := by
  induction f generalizing l m with
  | zero => simp [lebLen] at h
  | succ f ih =>
    match l with
    | [] => simp [lebLen] at h
    | c :: r =>
      rw [lebLen] at h
      split at h
      · rename_i hc
        obtain rfl : m = 0 := by omega
        exact ⟨by simp, by omega, by simpa using hc, fun i hi => by omega⟩
      · rename_i hc
        split at h
        · omega
        · rename_i hn
          obtain ⟨q, hq⟩ : ∃ q, lebLen f r = q + 1 := ⟨lebLen f r - 1, by omega⟩
          obtain rfl : m = q + 1 := by omega
          obtain ⟨g1, g2, g3, g4⟩ := ih hq
          refine ⟨by simp; omega, by omega, by simpa using g3, fun i hi => ?_⟩
          cases i with
          | zero => simp; omega
          | succ i => simpa using g4 i (by omega)

/-- The text that was read, and the value that it has: whether the value's own encoding is the text. -/
theorem getLeb_cases (l : List UInt8) (m : Nat) (h : lebLen 9 l = m + 1) : m < l.length ∧ m < 9 ∧
    getLeb l = if leb (lebVal (l.take (m + 1))) = l.take (m + 1) then (lebVal (l.take (m + 1)), m + 1, true) else (0, 0, false) := by
  obtain ⟨h1, h2, h3, h4⟩ := lebLen_spec h
  refine ⟨h1, h2, ?_⟩
  have hg : l.getD m 0 = l[m] := by rw [List.getD_eq_getElem?_getD, List.getElem?_eq_getElem h1]; rfl
  have e : l.take (m + 1) = l.take m ++ [l.getD m 0] := by rw [List.take_succ_eq_append_getElem h1, hg]
  have key := leb_lebVal (l.take m) (l.getD m 0) (fun d hd => by
    obtain ⟨i, hi, rfl⟩ := List.mem_iff_getElem.1 hd
    have hi' : i < m := by rw [List.length_take] at hi; omega
    have := h4 i hi'
    rw [List.getD_eq_getElem?_getD, List.getElem?_eq_getElem (by omega)] at this
    simpa using this) h3
  rw [← e] at key
  rw [getLeb, h, if_neg (by omega), show m + 1 - 1 = m by omega]
  by_cases hk : leb (lebVal (l.take (m + 1))) = l.take (m + 1)
  · rw [if_pos hk, if_neg]
    rintro ⟨g1, g2⟩
    rcases key.1 hk with g | g
    · have := congrArg List.length g
      simp only [List.length_take, List.length_nil] at this
      omega
    · rw [g2] at g; exact g rfl
  · rw [if_neg hk, if_pos]
    constructor
    · rcases Nat.eq_zero_or_pos m with h0 | h0
      · exact absurd (key.2 (.inl (by rw [h0]; rfl))) hk
      · omega
    · apply Classical.byContradiction
      intro hne
      exact hk (key.2 (.inr (fun h0 => hne (UInt8.toNat_inj.1 (by rw [h0]; rfl)))))

end Go.Proofs.Ytijggmopieddpaa
