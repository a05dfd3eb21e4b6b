/- The plain law of a split at dots. -/
import Derived.Test.YtadngjalhekmlaaDoorDecP
import Derived.Lib.Split
import Derived.Lib.SplitLaws
import Derived.Lib.CountLaws
import Derived.Lib.IndexBytes
namespace Go.Proofs.YtadngjalhekmlaaDoor
open Go.RowKit

/-- The pieces between dots. -/
def cutD : List UInt8 → List (List UInt8)
  | [] => [[]]
  | c :: l => if c = 46 then [] :: cutD l else match cutD l with
    | [] => [[c]]
    | h :: t => (c :: h) :: t
theorem cutD_ne : ∀ l, cutD l ≠ []
  | [] => by simp [cutD]
  | c :: l => by
    unfold cutD
    split
    · simp
    · split <;> simp
def joinD : List (List UInt8) → List UInt8
  | [] => []
  | [x] => x
  | x :: y :: r => x ++ 46 :: joinD (y :: r)
theorem joinD_cons (c : UInt8) (h : List UInt8) (t : List (List UInt8)) : joinD ((c :: h) :: t) = c :: joinD (h :: t) := by
  cases t <;> simp [joinD]
theorem join_cut : ∀ l, joinD (cutD l) = l
  | [] => rfl
  | c :: l => by
    have ih := join_cut l
    unfold cutD
    split
    · rename_i h
      subst h
      cases hc : cutD l with
      | nil => exact absurd hc (cutD_ne l)
      | cons x t => rw [hc] at ih; simp only [joinD, List.nil_append]; rw [ih]
    · cases hc : cutD l with
      | nil => exact absurd hc (cutD_ne l)
      | cons x t => rw [hc] at ih; simp only []; rw [joinD_cons, ih]
theorem cut_plain : ∀ (a r : List UInt8), (∀ c ∈ a, c ≠ 46) → cutD (a ++ 46 :: r) = a :: cutD r
  | [], r, _ => by simp [cutD]
  | c :: a, r, h => by
    have ih := cut_plain a r (fun x hx => h x (by simp [hx]))
    rw [List.cons_append, cutD, if_neg (h c (by simp)), ih]
theorem cut_last : ∀ (a : List UInt8), (∀ c ∈ a, c ≠ 46) → cutD a = [a]
  | [], _ => rfl
  | c :: a, h => by
    have ih := cut_last a (fun x hx => h x (by simp [hx]))
    rw [cutD, if_neg (h c (by simp)), ih]
theorem dig_plain {k : Nat} (h : k < 10) : UInt8.ofNat (48 + k) ≠ 46 := fun e => by
  have := congrArg UInt8.toNat e
  rw [dig_nat h] at this
  have h46 : (46 : UInt8).toNat = 46 := rfl
  omega
theorem dec_plain (n : Nat) (h : n ≤ 999) : ∀ c ∈ Lib.decDigits n, c ≠ 46 := by
  rw [dec_list n h]
  intro c hc
  split at hc
  · simp only [List.mem_cons, List.not_mem_nil, or_false] at hc
    subst hc
    exact dig_plain (by omega)
  · split at hc
    · simp only [List.mem_cons, List.not_mem_nil, or_false] at hc
      rcases hc with rfl | rfl <;> exact dig_plain (by omega)
    · simp only [List.mem_cons, List.not_mem_nil, or_false] at hc
      rcases hc with rfl | rfl | rfl <;> exact dig_plain (by omega)
theorem cut_ver (m : Nat) (hm : m ≤ 999999999) : cutD (verT m).data.toList = [Lib.decDigits (m / 1000000), Lib.decDigits (m / 1000 % 1000), Lib.decDigits (m % 1000)] := by
  have e : (verT m).data.toList = Lib.decDigits (m / 1000000) ++ 46 :: (Lib.decDigits (m / 1000 % 1000) ++ 46 :: Lib.decDigits (m % 1000)) := by simp [verT, decT]
  rw [e, cut_plain _ _ (dec_plain _ (by omega)), cut_plain _ _ (dec_plain _ (by omega)), cut_last _ (dec_plain _ (by omega))]
theorem ver_cut (s : ByteArray) (a b c : Nat) (hb : b ≤ 999) (hc : c ≤ 999) (h : cutD s.data.toList = [Lib.decDigits a, Lib.decDigits b, Lib.decDigits c]) : s = verT (a * 1000000 + b * 1000 + c) := by
  have h1 := join_cut s.data.toList
  rw [h] at h1
  refine ByteArray.ext (Array.toList_inj.1 ?_)
  rw [← h1]
  have e1 : (a * 1000000 + b * 1000 + c) / 1000000 = a := by omega
  have e2 : (a * 1000000 + b * 1000 + c) / 1000 % 1000 = b := by omega
  have e3 : (a * 1000000 + b * 1000 + c) % 1000 = c := by omega
  simp [joinD, verT, decT, e1, e2, e3]
theorem ib_plain : ∀ (a r : List UInt8), (∀ c ∈ a, c ≠ 46) → Lib.indexByte (a ++ 46 :: r) 46 = a.length
  | [], r, _ => by simp [Lib.indexByte]
  | c :: a, r, h => by
    have ih := ib_plain a r (fun x hx => h x (by simp [hx]))
    have hc : (c == 46) = false := by simpa using h c (by simp)
    have hn : (((a.length : Int)) == -1) = false := beq_false_of_ne (by omega)
    rw [List.cons_append, Lib.indexByte, hc, ih, hn]
    simp
theorem mem_all {c : UInt8} {l : List UInt8} (h : ¬ c = 46) (k : ∀ x ∈ l, x ≠ 46) : ∀ x ∈ c :: l, x ≠ 46 := by
  intro x hx
  rcases List.mem_cons.1 hx with e | hx
  · rw [e]; exact h
  · exact k x hx
theorem dot_cases : ∀ l : List UInt8, (∀ c ∈ l, c ≠ 46) ∨ ∃ a r, l = a ++ 46 :: r ∧ ∀ c ∈ a, c ≠ 46
  | [] => .inl (fun _ h => by cases h)
  | c :: l => by
    by_cases h : c = 46
    · exact Or.inr ⟨[], l, by simp [h], fun _ h => by cases h⟩
    · rcases dot_cases l with k | ⟨a, r, rfl, k⟩
      · exact Or.inl (mem_all h k)
      · exact Or.inr ⟨c :: a, r, rfl, mem_all h k⟩
theorem count_plain (a : List UInt8) (h : ∀ c ∈ a, c ≠ 46) : a.count 46 = 0 := List.count_eq_zero.2 (fun hm => h 46 hm rfl)
theorem split_cut : ∀ (n : Nat) (l : List UInt8), l.length ≤ n → Lib.splitK [46] 0 (l.count 46) l = cutD l
  | n, l, hn => by
    rcases dot_cases l with h | ⟨a, r, rfl, h⟩
    · rw [count_plain l h, cut_last l h]; rfl
    · have hk : (a ++ 46 :: r).count 46 = r.count 46 + 1 := by rw [List.count_append, count_plain a h, List.count_cons_self]; omega
      have hi : Lib.index (a ++ 46 :: r) [46] = (a.length : Int) := by rw [Lib.index_one, ib_plain a r h]
      have hm : ((a.length : Int) == -1) = false := beq_false_of_ne (by omega)
      cases n with
      | zero => simp at hn
      | succ n =>
        have ih := split_cut n r (by simp at hn; omega)
        rw [hk, Lib.splitK, hi, hm, cut_plain a r h]
        simp
        exact ih
end Go.Proofs.YtadngjalhekmlaaDoor
