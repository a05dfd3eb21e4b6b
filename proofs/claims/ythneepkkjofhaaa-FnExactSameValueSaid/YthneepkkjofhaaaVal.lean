/- Values (Kind, Num, Text, Kids) as trees, and how they lie in memory. No program in sight. -/
import Derived.Test.YthneepkkjofhaaaData
namespace Go.Proofs.Ythneepkkjofhaaa
open Go.RowKit

inductive Val where
  | mk (kind num : Int) (text : ByteArray) (kids : List Val)
def Val.kids : Val → List Val | .mk _ _ _ k => k
theorem Val.ind {P : Val → Prop} (h : ∀ k n t (kids : List Val), (∀ x ∈ kids, P x) → P (.mk k n t kids)) (x : Val) : P x :=
  match x with
  | .mk k n t kids => h k n t kids (fun y _hy => Val.ind h y)
termination_by SizeOf.sizeOf x
decreasing_by
  have := List.sizeOf_lt_of_mem _hy
  simp
  omega
mutual
/-- The four cells of a value. -/
def Val.ds : Val → List D
  | .mk k n t kids => [.int k, .int n, .str t, .sl kids.length 4 (Val.dss kids)]
def Val.dss : List Val → List D
  | [] => []
  | x :: r => Val.ds x ++ Val.dss r
end
theorem Val.ds_length (x : Val) : x.ds.length = 4 := by cases x; simp [Val.ds]
theorem Val.dss_eq (l : List Val) : Val.dss l = l.flatMap Val.ds := by
  induction l with
  | nil => rfl
  | cons x r ih => simp [Val.dss, ih]
/-- A slice of values. -/
def Val.sl (l : List Val) : D := .sl l.length 4 (Val.dss l)
mutual
/-- How many letters and places. -/
def Val.total : Val → Nat
  | .mk _ _ t kids => t.size + (kids.length + Val.totals kids)
def Val.totals : List Val → Nat
  | [] => 0
  | x :: r => Val.total x + Val.totals r
end
theorem Val.total_mem {x : Val} {l : List Val} (h : x ∈ l) : x.total ≤ Val.totals l := by
  induction l with
  | nil => cases h
  | cons y r ih =>
    simp only [Val.totals]
    rcases List.mem_cons.1 h with rfl | h
    · omega
    · have := ih h; omega
theorem Val.totals_take (l : List Val) (k : Nat) : Val.totals (l.take k) ≤ Val.totals l := by
  induction l generalizing k with
  | nil => simp [Val.totals]
  | cons y r ih =>
    cases k with
    | zero => simp [Val.totals]
    | succ k => simp only [List.take_succ_cons, Val.totals]; have := ih k; omega
theorem Val.totals_snoc (l : List Val) (x : Val) : Val.totals (l ++ [x]) = Val.totals l + x.total := by
  induction l with
  | nil => simp [Val.totals]
  | cons y r ih => simp only [List.cons_append, Val.totals, ih]; omega

section
variable {w : World} {S : Nat → Prop}
theorem Val.open_ {k n : Int} {t : ByteArray} {kids : List Val} {cs : List Value} (h : D.Ats w S (Val.ds (.mk k n t kids)) cs) :
    ∃ v, cs = [.int .i64 k, .int .i64 n, .string t, v] ∧ (-9223372036854775808 ≤ k ∧ k ≤ 9223372036854775807) ∧ (-9223372036854775808 ≤ n ∧ n ≤ 9223372036854775807) ∧ t.size ≤ maxLen ∧ D.At w S (Val.sl kids) v := by
  simp only [Val.ds, D.Ats] at h
  obtain ⟨_, _, rfl, h1, _, _, rfl, h2, _, _, rfl, h3, v, _, rfl, h4, rfl⟩ := h
  simp only [D.At] at h1 h2 h3
  obtain ⟨rfl, h1⟩ := h1
  obtain ⟨rfl, h2⟩ := h2
  obtain ⟨rfl, h3⟩ := h3
  exact ⟨v, rfl, h1, h2, h3, h4⟩
theorem Val.mk_ {k n : Int} {t : ByteArray} {kids : List Val} {v : Value} (h1 : -9223372036854775808 ≤ k ∧ k ≤ 9223372036854775807) (h2 : -9223372036854775808 ≤ n ∧ n ≤ 9223372036854775807) (h3 : t.size ≤ maxLen) (h4 : D.At w S (Val.sl kids) v) :
    D.Ats w S (Val.ds (.mk k n t kids)) [.int .i64 k, .int .i64 n, .string t, v] := by
  simp only [Val.ds]
  refine .cons ?_ (.cons ?_ (.cons ?_ (.cons h4 .nil)))
  · unfold D.At; exact ⟨rfl, h1⟩
  · unfold D.At; exact ⟨rfl, h2⟩
  · unfold D.At; exact ⟨rfl, h3⟩
theorem Val.sl_form {l : List Val} {v : Value} (h : D.At w S (Val.sl l) v) : ∃ A cap, v = .slice A l.length cap ∧ l.length ≤ cap ∧ cap ≤ maxLen := by
  unfold Val.sl at h
  rw [Val.dss_eq] at h
  exact (h.row Val.ds_length).1
/-- Row i of a slice of values. -/
theorem Val.sl_at {l : List Val} {A : Option Addr} {cap : Nat} (h : D.At w S (Val.sl l) (.slice A l.length cap)) {i : Nat} {x : Val} (hx : l[i]? = some x) :
    ∃ b off u0 u1 u2 u3, A = some ⟨b, off, none⟩ ∧ S b ∧ b < w.heap.size ∧ D.Ats w S x.ds [u0, u1, u2, u3] ∧ w.cell? ⟨b, off + i * 4, none⟩ = some u0 ∧ w.cell? ⟨b, off + i * 4 + 1, none⟩ = some u1 ∧
      w.cell? ⟨b, off + i * 4 + 2, none⟩ = some u2 ∧ w.cell? ⟨b, off + i * 4 + 3, none⟩ = some u3 := by
  unfold Val.sl at h
  rw [Val.dss_eq] at h
  obtain ⟨b, off, cap', us, hv, hS, hb, h1, h2, h3⟩ := (h.row Val.ds_length).2 i x hx
  injection hv with hA _ _
  match us, h2 with
  | [u0, u1, u2, u3], _ => exact ⟨b, off, u0, u1, u2, u3, hA, hS, hb, h1, h3 0 u0 rfl, h3 1 u1 rfl, h3 2 u2 rfl, h3 3 u3 rfl⟩
end
end Go.Proofs.Ythneepkkjofhaaa
