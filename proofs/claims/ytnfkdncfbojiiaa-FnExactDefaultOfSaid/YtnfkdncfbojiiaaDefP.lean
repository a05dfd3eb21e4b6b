/- The default value of a type. No program in sight. -/
import Derived.Test.YtnfkdncfbojiiaaTyShapeP
import Derived.Test.YtnfkdncfbojiiaaVaM
import Derived.Test.YtnfkdncfbojiiaaSep
namespace Go.Proofs.Ytnfkdncfbojiiaa
open Go.RowKit

mutual
def Ty.dflt : Ty → Va
  | .mk k _ _ kids => .mk k 0 ⟨#[]⟩ (if k = 15 ∨ k = 16 then Ty.dflts kids else if k = 14 ∨ k = 17 then Ty.dfirst kids else [])
def Ty.dflts : List Ty → List Va
  | [] => []
  | x :: r => Ty.dflt x :: Ty.dflts r
def Ty.dfirst : List Ty → List Va
  | [] => []
  | x :: _ => if isU x = true then [] else [Ty.dflt x]
end
/-- The types of the kids of a default value. -/
def dts (k : Int) (kids : List Ty) : List Ty := if k = 15 ∨ k = 16 then kids else if k = 14 ∨ k = 17 then (match kids with | [] => [] | x :: _ => if isU x = true then [] else [x]) else []
theorem Ty.dflt_mk (k : Int) (n : ByteArray) (l : List ByteArray) (kids : List Ty) : Ty.dflt (.mk k n l kids) = .mk k 0 ⟨#[]⟩ ((dts k kids).map Ty.dflt) := by
  have h : ∀ l : List Ty, Ty.dflts l = l.map Ty.dflt := by
    intro l
    induction l with
    | nil => rfl
    | cons x r ih => simp only [Ty.dflts, List.map_cons, ih]
  unfold Ty.dflt dts
  rw [h]
  split
  · rfl
  · split
    · cases kids with
      | nil => rfl
      | cons x r =>
        simp only [Ty.dfirst]
        split <;> rfl
    · rfl
theorem dts_mem {k : Int} {kids : List Ty} {x : Ty} (h : x ∈ dts k kids) : x ∈ kids := by
  unfold dts at h
  split at h
  · exact h
  · split at h
    · cases kids with
      | nil => cases h
      | cons y r =>
        simp only at h
        split at h
        · cases h
        · simp at h; simp [h]
    · cases h
theorem dts_all {k : Int} {kids : List Ty} (h : k = 15 ∨ k = 16) : dts k kids = kids := by unfold dts; rw [if_pos h]
theorem dts_unit {k : Int} {x : Ty} {r : List Ty} (h : k = 14 ∨ k = 17) (hu : isU x = true) : dts k (x :: r) = [] := by unfold dts; rw [if_neg (by omega), if_pos h]; simp [hu]
theorem dts_one {k : Int} {x : Ty} {r : List Ty} (h : k = 14 ∨ k = 17) (hu : isU x = false) : dts k (x :: r) = [x] := by unfold dts; rw [if_neg (by omega), if_pos h]; simp [hu]
theorem dts_none {k : Int} {kids : List Ty} (h : ¬ (k = 14 ∨ k = 15 ∨ k = 16 ∨ k = 17)) : dts k kids = [] := by unfold dts; rw [if_neg (by omega), if_neg (by omega)]
theorem dts_parts (k : Int) (kids : List Ty) : Ty.partss (dts k kids) ≤ Ty.partss kids := by
  unfold dts
  split
  · exact Nat.le_refl _
  · split
    · cases kids with
      | nil => exact Nat.le_refl _
      | cons x r =>
        simp only
        split
        · exact Nat.zero_le _
        · simp only [Ty.partss]; omega
    · exact Nat.zero_le _
theorem dflt_counts (x : Ty) : D.counts x.dflt.ds ≤ 3 * x.parts := by
  induction x using Ty.ind with
  | h k n l kids ih =>
    have key : ∀ l : List Ty, (∀ x ∈ l, D.counts x.dflt.ds ≤ 3 * x.parts) → D.counts ((l.map Ty.dflt).flatMap Va.ds) ≤ 3 * Ty.partss l := by
      intro l
      induction l with
      | nil => intro _; simp [D.counts, Ty.partss]
      | cons y r ihr =>
        intro h
        have h1 := h y (by simp)
        have h2 := ihr (fun x hx => h x (by simp [hx]))
        rw [List.map_cons, List.flatMap_cons, D.counts_append]
        simp only [Ty.partss]
        omega
    have h1 := key (dts k kids) (fun x hx => ih x (dts_mem hx))
    have h2 := dts_parts k kids
    rw [Ty.dflt_mk, Va.ds_eq, Ty.parts_mk]
    simp only [D.counts, D.count, rows]
    omega
def defOr (x : Ty) : Va := if tyOk x = true then x.dflt else .mk 0 0 ⟨#[]⟩ []
end Go.Proofs.Ytnfkdncfbojiiaa
