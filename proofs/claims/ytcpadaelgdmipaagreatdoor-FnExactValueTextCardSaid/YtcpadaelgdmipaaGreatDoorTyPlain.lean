/- Types: how deep, how many parts, which are valid. No program in sight but the names' law. -/
import Derived.Test.YtcpadaelgdmipaaGreatDoorTyM
import Derived.Test.YtcpadaelgdmipaaGreatDoorNameOk
namespace Go.Proofs.YtcpadaelgdmipaaGreatDoor
open Go.RowKit

mutual
def Ty.deep : Ty → Nat
  | .mk _ _ _ kids => Ty.deeps kids + 1
def Ty.deeps : List Ty → Nat
  | [] => 0
  | x :: r => max (Ty.deep x) (Ty.deeps r)
end
mutual
def Ty.parts : Ty → Nat
  | .mk _ _ _ kids => Ty.partss kids + 1
def Ty.partss : List Ty → Nat
  | [] => 0
  | x :: r => Ty.parts x + Ty.partss r
end
theorem Ty.deep_mk (k : Int) (n : ByteArray) (l : List ByteArray) (kids : List Ty) : Ty.deep (.mk k n l kids) = Ty.deeps kids + 1 := rfl
theorem Ty.parts_mk (k : Int) (n : ByteArray) (l : List ByteArray) (kids : List Ty) : Ty.parts (.mk k n l kids) = Ty.partss kids + 1 := rfl
theorem Ty.deep_pos (x : Ty) : 1 ≤ x.deep := by cases x; simp [Ty.deep_mk]
theorem Ty.parts_pos (x : Ty) : 1 ≤ x.parts := by cases x; simp [Ty.parts_mk]
theorem Ty.deeps_app (a b : List Ty) : Ty.deeps (a ++ b) = max (Ty.deeps a) (Ty.deeps b) := by
  induction a with
  | nil => simp [Ty.deeps]
  | cons x r ih => simp only [List.cons_append, Ty.deeps, ih]; omega
theorem Ty.partss_app (a b : List Ty) : Ty.partss (a ++ b) = Ty.partss a + Ty.partss b := by
  induction a with
  | nil => simp [Ty.partss]
  | cons x r ih => simp only [List.cons_append, Ty.partss, ih]; omega
theorem Ty.partss_take (l : List Ty) (k : Nat) : Ty.partss (l.take k) ≤ Ty.partss l := by
  have h : l = l.take k ++ l.drop k := (List.take_append_drop k l).symm
  have e := Ty.partss_app (l.take k) (l.drop k)
  rw [← h] at e
  omega
theorem Ty.deeps_take (l : List Ty) (k : Nat) : Ty.deeps (l.take k) ≤ Ty.deeps l := by
  have h : l = l.take k ++ l.drop k := (List.take_append_drop k l).symm
  have e := Ty.deeps_app (l.take k) (l.drop k)
  rw [← h] at e
  omega
theorem Ty.partss_next {l : List Ty} {k : Nat} {x : Ty} (hx : l[k]? = some x) : Ty.partss (l.take (k + 1)) = Ty.partss (l.take k) + x.parts := by
  rw [List.take_add_one, hx, Ty.partss_app]; simp [Ty.partss]
theorem Ty.deeps_next {l : List Ty} {k : Nat} {x : Ty} (hx : l[k]? = some x) : Ty.deeps (l.take (k + 1)) = max (Ty.deeps (l.take k)) x.deep := by
  rw [List.take_add_one, hx, Ty.deeps_app]; simp [Ty.deeps]
theorem Ty.deep_mem {l : List Ty} {x : Ty} (h : x ∈ l) : x.deep ≤ Ty.deeps l := by
  induction l with
  | nil => cases h
  | cons y r ih =>
    rcases List.mem_cons.1 h with rfl | h
    · simp only [Ty.deeps]; omega
    · have := ih h; simp only [Ty.deeps]; omega
theorem Ty.parts_mem {l : List Ty} {x : Ty} (h : x ∈ l) : x.parts ≤ Ty.partss l := by
  induction l with
  | nil => cases h
  | cons y r ih =>
    rcases List.mem_cons.1 h with rfl | h
    · simp only [Ty.partss]; omega
    · have := ih h; simp only [Ty.partss]; omega
theorem Ty.length_parts (l : List Ty) : l.length ≤ Ty.partss l := by
  induction l with
  | nil => simp
  | cons y r ih => have := Ty.parts_pos y; simp only [Ty.partss, List.length_cons]; omega
mutual
theorem Ty.parts_total : ∀ x : Ty, x.parts ≤ D.totals x.ds + 1
  | .mk k n l kids => by
    rw [Ty.parts_mk, Ty.ds_eq]
    have := Ty.partss_total kids
    simp only [D.totals, D.total, rows_total]
    omega
theorem Ty.partss_total : ∀ l : List Ty, Ty.partss l ≤ l.length + D.totals (l.flatMap Ty.ds)
  | [] => by simp [Ty.partss]
  | x :: r => by
    have h1 := Ty.parts_total x
    have h2 := Ty.partss_total r
    simp only [Ty.partss, List.length_cons, List.flatMap_cons, D.totals_append]
    omega
end
/-- What the reference's measure gives at a level. -/
def fitsAt (level : Nat) (x : Ty) : Bool := decide (x.deep + level ≤ 5 ∧ x.parts ≤ 24)
def sizeD (level : Nat) (x : Ty) : Int := if fitsAt level x = true then x.deep else 5
def sizeN (level : Nat) (x : Ty) : Int := if fitsAt level x = true then x.parts else 25
mutual
/-- A part of such a kind. -/
def Ty.has (p : Int → Bool) : Ty → Bool
  | .mk k _ _ kids => p k || Ty.hass p kids
def Ty.hass (p : Int → Bool) : List Ty → Bool
  | [] => false
  | x :: r => Ty.has p x || Ty.hass p r
end
theorem Ty.has_mk (p : Int → Bool) (k : Int) (n : ByteArray) (l : List ByteArray) (kids : List Ty) : Ty.has p (.mk k n l kids) = (p k || kids.any (Ty.has p)) := by
  have h : ∀ l : List Ty, Ty.hass p l = l.any (Ty.has p) := by
    intro l
    induction l with
    | nil => rfl
    | cons x r ih => simp only [Ty.hass, List.any_cons, ih]
  show (p k || Ty.hass p kids) = _
  rw [h]
mutual
/-- All parts are so. -/
def Ty.all (q : Ty → Bool) : Ty → Bool
  | .mk k n l kids => q (.mk k n l kids) && Ty.alls q kids
def Ty.alls (q : Ty → Bool) : List Ty → Bool
  | [] => true
  | x :: r => Ty.all q x && Ty.alls q r
end
theorem Ty.all_mk (q : Ty → Bool) (k : Int) (n : ByteArray) (l : List ByteArray) (kids : List Ty) : Ty.all q (.mk k n l kids) = (q (.mk k n l kids) && kids.all (Ty.all q)) := by
  have h : ∀ l : List Ty, Ty.alls q l = l.all (Ty.all q) := by
    intro l
    induction l with
    | nil => rfl
    | cons x r ih => simp only [Ty.alls, List.all_cons, ih]
  show (q _ && Ty.alls q kids) = _
  rw [h]
theorem any_bad {α : Type} {p : α → Bool} {l : List α} {k : Nat} {x : α} (hx : l[k]? = some x) (h : p x = true) : l.any p = true := List.any_eq_true.2 ⟨x, List.mem_of_getElem? hx, h⟩
/-- None so far. -/
def NoneTo {α : Type} (p : α → Bool) (l : List α) (k : Nat) : Prop := (l.take k).any p = false
theorem NoneTo.zero {α : Type} (p : α → Bool) (l : List α) : NoneTo p l 0 := by simp [NoneTo]
theorem NoneTo.next {α : Type} {p : α → Bool} {l : List α} {k : Nat} {x : α} (h : NoneTo p l k) (hx : l[k]? = some x) (hp : p x = false) : NoneTo p l (k + 1) := by
  unfold NoneTo at h ⊢
  rw [List.take_add_one, hx, List.any_append, h]
  simp [hp]
theorem NoneTo.end_ {α : Type} {p : α → Bool} {l : List α} (h : NoneTo p l l.length) : l.any p = false := by
  unfold NoneTo at h
  rwa [List.take_length] at h
def isU (x : Ty) : Bool := x.kind == 1
/-- No two of the texts are the same. -/
def nodupS : List ByteArray → Bool
  | [] => true
  | x :: r => !(r.any (sameS x)) && nodupS r
def labelsOk (l : List ByteArray) : Bool := (decide (1 ≤ l.length) && decide (l.length ≤ 16)) && ((l.all nameOk) && nodupS l)
def isNamed (k : Int) : Bool := k == 20 || k == 21
def isLabelled (k : Int) : Bool := inR 16 k 19
/-- The kids fit the kind. -/
def kidsFit (k : Int) (labels : Nat) (kids : List Ty) : Bool :=
  if k = 12 ∨ k = 13 then (kids.length == 1) && !(kids.any isU)
  else if k = 22 ∨ k = 23 then (kids.length == 1) && !(kids.any (Ty.has fun q => q == 21))
  else if k = 14 then kids.length == 2
  else if k = 15 then (decide (1 ≤ kids.length) && decide (kids.length ≤ 6)) && !(kids.any isU)
  else if k = 16 then (kids.length == labels) && !(kids.any isU)
  else if k = 17 then kids.length == labels
  else inR 1 k 23 && (kids.length == 0)
/-- One part is valid by itself. -/
def shape : Ty → Bool
  | .mk k n l kids => (isNamed k == !n.toList.isEmpty) && ((!isNamed k || nameOk n) && ((isLabelled k == decide (0 < l.length)) && ((!isLabelled k || labelsOk l) && kidsFit k l.length kids)))
def tyOk (x : Ty) : Bool := decide (x.deep ≤ 4) && (decide (x.parts ≤ 24) && Ty.all shape x)
end Go.Proofs.YtcpadaelgdmipaaGreatDoor
