/- Values and handles as models, and how they lie in cells. No program in sight. -/
import Derived.Test.YtcpadaelgdmipaaGreatDoorTree
namespace Go.Proofs.YtcpadaelgdmipaaGreatDoor
open Go.RowKit

inductive Va where
  | mk (kind num : Int) (text : ByteArray) (kids : List Va)
def Va.kind : Va → Int | .mk k _ _ _ => k
def Va.num : Va → Int | .mk _ m _ _ => m
def Va.text : Va → ByteArray | .mk _ _ t _ => t
def Va.kids : Va → List Va | .mk _ _ _ k => k
theorem Va.ind {P : Va → Prop} (h : ∀ k m t (kids : List Va), (∀ x ∈ kids, P x) → P (.mk k m t kids)) (x : Va) : P x :=
  match x with
  | .mk k m t kids => h k m t kids (fun y _hy => Va.ind h y)
termination_by SizeOf.sizeOf x
decreasing_by
  have := List.sizeOf_lt_of_mem _hy
  simp
  omega
mutual
def Va.ds : Va → List D
  | .mk k m t kids => [.int k, .int m, .str t, .sl kids.length 4 (Va.dss kids)]
def Va.dss : List Va → List D
  | [] => []
  | x :: r => Va.ds x ++ Va.dss r
end
theorem Va.dss_eq (l : List Va) : Va.dss l = l.flatMap Va.ds := by
  induction l with
  | nil => rfl
  | cons x r ih => simp [Va.dss, ih]
theorem Va.ds_eq (k m : Int) (t : ByteArray) (kids : List Va) : Va.ds (.mk k m t kids) = [.int k, .int m, .str t, rows Va.ds 4 kids] := by
  simp only [Va.ds, rows, Va.dss_eq]
theorem Va.len (x : Va) : x.ds.length = 4 := by cases x; simp [Va.ds]
def Va.same (x y : Va) : Bool := D.sames x.ds y.ds
theorem Va.same_eq (k m : Int) (t : ByteArray) (kids : List Va) (k' m' : Int) (t' : ByteArray) (kids' : List Va) :
    Va.same (.mk k m t kids) (.mk k' m' t' kids') = ((k == k') && ((m == m') && ((t.toList == t'.toList) && (pairs Va.same kids kids')))) := by
  simp only [Va.same, Va.ds_eq, D.sames, D.same, same_rows Va.len, Bool.and_true]
  rfl
theorem Va.same_refl (x : Va) : Va.same x x = true := D.sames_refl _
structure Hn where
  own : Bool
  res : ByteArray
  num : Int
def Hn.ds (x : Hn) : List D := [.bool x.own, .str x.res, .int x.num]
theorem Hn.len (x : Hn) : x.ds.length = 3 := rfl
def Hn.same (x y : Hn) : Bool := D.sames x.ds y.ds
theorem Hn.same_eq (x y : Hn) : Hn.same x y = ((x.own == y.own) && ((x.res.toList == y.res.toList) && ((x.num == y.num)))) := by
  simp only [Hn.same, Hn.ds, D.sames, D.same, Bool.and_true]
theorem Hn.same_refl (x : Hn) : Hn.same x x = true := D.sames_refl _
section
variable {w : World} {S : Nat → Prop}
theorem Va.open_ {k m : Int} {t : ByteArray} {kids : List Va} {cs : List Value} (h : D.Ats w S (Va.ds (.mk k m t kids)) cs) :
    ∃ A c, cs = [.int .i64 k, .int .i64 m, .string t, .slice A kids.length c] ∧ (-9223372036854775808 ≤ k ∧ k ≤ 9223372036854775807) ∧ (-9223372036854775808 ≤ m ∧ m ≤ 9223372036854775807) ∧ t.size ≤ maxLen ∧
      D.At w S (rows Va.ds 4 kids) (.slice A kids.length c) := by
  rw [Va.ds_eq] at h
  obtain ⟨vs, rfl, h1, h⟩ := h.int_cell
  obtain ⟨vs, rfl, h2, h⟩ := h.int_cell
  obtain ⟨vs, rfl, h3, h⟩ := h.str_cell
  obtain ⟨A, c, vs, rfl, h4, h⟩ := D.Ats.rows_cell Va.len h
  obtain rfl := h.nil_cell
  exact ⟨A, c, rfl, h1, h2, h3, h4⟩
theorem Va.mk_ {k m : Int} {t : ByteArray} {kids : List Va} {v : Value} (h1 : -9223372036854775808 ≤ k ∧ k ≤ 9223372036854775807) (h2 : -9223372036854775808 ≤ m ∧ m ≤ 9223372036854775807) (h3 : t.size ≤ maxLen) (h4 : D.At w S (rows Va.ds 4 kids) v) :
    D.Ats w S (Va.ds (.mk k m t kids)) [.int .i64 k, .int .i64 m, .string t, v] := by
  rw [Va.ds_eq]
  exact .cons (.mk_int h1) (.cons (.mk_int h2) (.cons (.mk_str h3) (.cons h4 .nil)))
theorem Va.form {x : Va} {cs : List Value} (h : D.Ats w S x.ds cs) : ∃ k m t A n c, cs = [.int .i64 k, .int .i64 m, .string t, .slice A n c] := by
  obtain ⟨k, m, t, kids⟩ := x
  obtain ⟨A, c, rfl, -⟩ := Va.open_ h
  exact ⟨k, m, t, A, _, c, rfl⟩
theorem Hn.open_ {x : Hn} {cs : List Value} (h : D.Ats w S x.ds cs) :
    cs = [.bool x.own, .string x.res, .int .i64 x.num] ∧ x.res.size ≤ maxLen ∧ (-9223372036854775808 ≤ x.num ∧ x.num ≤ 9223372036854775807) := by
  unfold Hn.ds at h
  obtain ⟨vs, rfl, g⟩ := D.Ats.bool_cell h
  obtain ⟨ws, rfl, h2, g⟩ := D.Ats.str_cell g
  obtain ⟨zs, rfl, h3, g⟩ := D.Ats.int_cell g
  obtain rfl := D.Ats.nil_cell g
  exact ⟨rfl, h2, h3⟩
theorem Hn.mk_ {x : Hn} (h2 : x.res.size ≤ maxLen) (h3 : -9223372036854775808 ≤ x.num ∧ x.num ≤ 9223372036854775807) :
    D.Ats w S x.ds [.bool x.own, .string x.res, .int .i64 x.num] := .cons .mk_bool (.cons (.mk_str h2) (.cons (.mk_int h3) .nil))
theorem Hn.form {x : Hn} {cs : List Value} (h : D.Ats w S x.ds cs) : ∃ p q r, cs = [.bool p, .string q, .int .i64 r] := ⟨_, _, _, (Hn.open_ h).1⟩
end
end Go.Proofs.YtcpadaelgdmipaaGreatDoor
