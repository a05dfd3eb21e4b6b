/- How many marks a type takes; readings told again. No program in sight. -/
import Derived.Test.YtofihcahimdbhaaMtBase
import Derived.Test.YtofihcahimdbhaaSepIn
import Derived.Test.YtofihcahimdbhaaTyM
namespace Go.Proofs.Ytofihcahimdbhaa
open Go.RowKit

theorem D.At.any_ {w : World} {S : Nat → Prop} {d : D} {v : Value} (h : D.At w S d v) : D.At w anyB d v := h.weaken (fun _ _ => trivial)
theorem D.Ats.any_ {w : World} {S : Nat → Prop} {d : List D} {v : List Value} (h : D.Ats w S d v) : D.Ats w anyB d v := h.weaken (fun _ _ => trivial)
theorem SepIn.lt_ {w : World} {lo hi : Nat} {d : D} {v : Value} (h : SepIn w lo hi d v) : D.At w (fun b => b < hi) d v := by
  obtain ⟨_, l, g1, -, g3⟩ := h
  exact D.Sep.at_ d l v (fun b hb => (g3 b hb).2) g1
theorem SepsIn.lt_ {w : World} {lo hi : Nat} {d : List D} {v : List Value} (h : SepsIn w lo hi d v) : D.Ats w (fun b => b < hi) d v := by
  obtain ⟨_, l, g1, -, g3⟩ := h
  exact D.Seps.at_ d l v (fun b hb => (g3 b hb).2) g1
theorem strs_counts (l : List ByteArray) : D.counts (l.flatMap strD) = l.length := by
  induction l with
  | nil => rfl
  | cons x r ih => rw [List.flatMap_cons, D.counts_append, ih]; simp [strD, D.counts, D.count]; omega
theorem Ty.counts_le (x : Ty) : D.counts x.ds ≤ 7 * D.totals x.ds + 4 := by
  induction x using Ty.ind with
  | h k n l kids ih =>
    have key : ∀ ks : List Ty, (∀ y ∈ ks, D.counts y.ds ≤ 7 * D.totals y.ds + 4) → D.counts (ks.flatMap Ty.ds) ≤ 7 * D.totals (ks.flatMap Ty.ds) + 4 * ks.length := by
      intro ks
      induction ks with
      | nil => intro _; simp [D.counts]
      | cons y r ihr =>
        intro h
        have h1 := h y (by simp)
        have h2 := ihr (fun z hz => h z (by simp [hz]))
        rw [List.flatMap_cons, D.counts_append, D.totals_append, List.length_cons]
        omega
    have h1 := key kids ih
    have h2 := strs_counts l
    have e1 : D.counts (Ty.ds (.mk k n l kids)) = 2 + D.counts (l.flatMap strD) + D.counts (kids.flatMap Ty.ds) := by rw [Ty.ds_eq]; simp [D.counts, D.count, strs, rows]; omega
    have e2 : D.totals (Ty.ds (.mk k n l kids)) = n.size + (l.length + D.totals (l.flatMap strD)) + (kids.length + D.totals (kids.flatMap Ty.ds)) := by
      rw [Ty.ds_eq]; simp [D.totals, D.total, strs, rows]; omega
    omega
theorem Ty.topsC_le (x : Ty) : D.topsC x.ds ≤ 7 * D.totals x.ds + 4 := by
  have h := Ty.counts_le x
  obtain ⟨k, n, l, kids⟩ := x
  rw [Ty.ds_eq] at h ⊢
  simp only [D.topsC, D.topC, D.counts, D.count, strs, rows] at h ⊢
  omega
end Go.Proofs.Ytofihcahimdbhaa
