/- The slices of a struct, one by one. -/
import Derived.Test.YtofihcahimdbhaaMkBase
namespace Go.Proofs.Ytofihcahimdbhaa
open Go.RowKit

theorem D.Seps.field {w : World} {P R : List D} {d : D} {l : List Nat} {xs : List Value} (h : D.Seps w (P ++ d :: R) l xs) (hnd : l.Nodup) :
    ∃ l2 x, xs[P.length]? = some x ∧ D.Sep w d l2 x ∧ l2.Nodup ∧ (∀ b ∈ l2, b ∈ l) ∧ ∀ d' w2, Wr l2 w w2 → D.Sep w2 d' l2 x → D.Seps w2 (P ++ d' :: R) l xs := by
  obtain ⟨l1, l23, ys, zs, rfl, rfl, s1, s23⟩ := h.split
  obtain ⟨l2, l3, x, vs, rfl, rfl, s2, s3⟩ := s23.head
  have hnd2 := List.nodup_append.1 hnd
  have hnd3 := List.nodup_append.1 hnd2.2.1
  refine ⟨l2, x, by rw [← s1.length]; simp, s2, hnd3.1, fun b hb => by simp [hb], fun d' w2 hw h' => ?_⟩
  have d1 : ∀ b ∈ l1, b ∉ l2 := fun b hb hm => hnd2.2.2 b hb b (by simp [hm]) rfl
  have d3 : ∀ b ∈ l3, b ∉ l2 := fun b hb hm => hnd3.2.2 b hm b hb rfl
  exact (s1.wr hw d1).append (D.Seps.cons h' (s3.wr hw d3))
theorem D.Ats.field {w : World} {S : Nat → Prop} {P R : List D} {d : D} {xs : List Value} (h : D.Ats w S (P ++ d :: R) xs) : ∃ x, xs[P.length]? = some x ∧ D.At w S d x := by
  obtain ⟨ys, zs, rfl, s1, s2⟩ := h.split
  simp only [D.Ats] at s2
  obtain ⟨x, vs, rfl, s3, -⟩ := s2
  exact ⟨x, by rw [← s1.length]; simp, s3⟩

end Go.Proofs.Ytofihcahimdbhaa
