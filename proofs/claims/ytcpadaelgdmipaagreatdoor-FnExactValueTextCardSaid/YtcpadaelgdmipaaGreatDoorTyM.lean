/- Types, parameters, functions, interfaces, worlds, tokens as models, and how they lie in cells. No program in sight. -/
import Derived.Test.YtcpadaelgdmipaaGreatDoorTree
namespace Go.Proofs.YtcpadaelgdmipaaGreatDoor
open Go.RowKit

inductive Ty where
  | mk (kind : Int) (name : ByteArray) (labels : List ByteArray) (kids : List Ty)
def Ty.kind : Ty → Int | .mk k _ _ _ => k
def Ty.name : Ty → ByteArray | .mk _ n _ _ => n
def Ty.labels : Ty → List ByteArray | .mk _ _ l _ => l
def Ty.kids : Ty → List Ty | .mk _ _ _ k => k
theorem Ty.ind {P : Ty → Prop} (h : ∀ k n l (kids : List Ty), (∀ x ∈ kids, P x) → P (.mk k n l kids)) (x : Ty) : P x :=
  match x with
  | .mk k n l kids => h k n l kids (fun y _hy => Ty.ind h y)
termination_by SizeOf.sizeOf x
decreasing_by
  have := List.sizeOf_lt_of_mem _hy
  simp
  omega
mutual
def Ty.ds : Ty → List D
  | .mk k n l kids => [.int k, .str n, strs l, .sl kids.length 4 (Ty.dss kids)]
def Ty.dss : List Ty → List D
  | [] => []
  | x :: r => Ty.ds x ++ Ty.dss r
end
theorem Ty.dss_eq (l : List Ty) : Ty.dss l = l.flatMap Ty.ds := by
  induction l with
  | nil => rfl
  | cons x r ih => simp [Ty.dss, ih]
theorem Ty.ds_eq (k : Int) (n : ByteArray) (l : List ByteArray) (kids : List Ty) : Ty.ds (.mk k n l kids) = [.int k, .str n, strs l, rows Ty.ds 4 kids] := by
  simp only [Ty.ds, rows, Ty.dss_eq]
theorem Ty.len (x : Ty) : x.ds.length = 4 := by cases x; simp [Ty.ds]
/-- Types one behind the other. -/
def Ty.sl (l : List Ty) : D := rows Ty.ds 4 l

structure Pa where
  name : ByteArray
  ty : Ty
def Pa.ds (x : Pa) : List D := .str x.name :: x.ty.ds
theorem Pa.len (x : Pa) : x.ds.length = 5 := by simp [Pa.ds, Ty.len]
structure Fn where
  params : List Pa
  res : Ty
  async : Bool
def Fn.ds (x : Fn) : List D := rows Pa.ds 5 x.params :: (x.res.ds ++ [.bool x.async])
theorem Fn.len (x : Fn) : x.ds.length = 6 := by simp [Fn.ds, Ty.len]
structure Fu where
  name : ByteArray
  ty : Fn
def Fu.ds (x : Fu) : List D := .str x.name :: x.ty.ds
theorem Fu.len (x : Fu) : x.ds.length = 7 := by simp [Fu.ds, Fn.len]
structure Fa where
  pkg : ByteArray
  name : ByteArray
  ver : ByteArray
  owns : List ByteArray
  funcs : List Fu
def Fa.ds (x : Fa) : List D := [.str x.pkg, .str x.name, .str x.ver, strs x.owns, rows Fu.ds 7 x.funcs]
theorem Fa.len (x : Fa) : x.ds.length = 5 := rfl
structure Wo where
  pkg : ByteArray
  name : ByteArray
  ver : ByteArray
  imps : List Fa
  exps : List Fa
def Wo.ds (x : Wo) : List D := [.str x.pkg, .str x.name, .str x.ver, rows Fa.ds 5 x.imps, rows Fa.ds 5 x.exps]
theorem Wo.len (x : Wo) : x.ds.length = 5 := rfl
structure Tok where
  kind : Int
  text : ByteArray
  line : Int
def Tok.ds (x : Tok) : List D := [.int x.kind, .str x.text, .int x.line]
theorem Tok.len (x : Tok) : x.ds.length = 3 := rfl

def Ty.same (x y : Ty) : Bool := D.sames x.ds y.ds
def Pa.same (x y : Pa) : Bool := D.sames x.ds y.ds
def Fn.same (x y : Fn) : Bool := D.sames x.ds y.ds
def Fu.same (x y : Fu) : Bool := D.sames x.ds y.ds
def Fa.same (x y : Fa) : Bool := D.sames x.ds y.ds
def Wo.same (x y : Wo) : Bool := D.sames x.ds y.ds
def Tok.same (x y : Tok) : Bool := D.sames x.ds y.ds
theorem Ty.same_eq (k : Int) (n : ByteArray) (l : List ByteArray) (kids : List Ty) (k' : Int) (n' : ByteArray) (l' : List ByteArray) (kids' : List Ty) :
    Ty.same (.mk k n l kids) (.mk k' n' l' kids') = ((k == k') && ((n.toList == n'.toList) && (pairs sameS l l' && (pairs Ty.same kids kids')))) := by
  simp only [Ty.same, Ty.ds_eq, D.sames, D.same, same_strs, same_rows Ty.len, Bool.and_true]
  rfl
theorem Pa.same_eq (x y : Pa) : Pa.same x y = ((x.name.toList == y.name.toList) && (Ty.same x.ty y.ty)) := rfl
theorem Fn.same_eq (x y : Fn) : Fn.same x y = (pairs Pa.same x.params y.params && (Ty.same x.res y.res && ((x.async == y.async)))) := by
  simp only [Fn.same, Fn.ds, D.sames, same_rows Pa.len]
  rw [D.sames_append (by rw [Ty.len, Ty.len])]
  simp only [D.sames, D.same, Bool.and_true]
  rfl
theorem Fu.same_eq (x y : Fu) : Fu.same x y = ((x.name.toList == y.name.toList) && (Fn.same x.ty y.ty)) := rfl
theorem Fa.same_eq (x y : Fa) : Fa.same x y = ((x.pkg.toList == y.pkg.toList) && ((x.name.toList == y.name.toList) && ((x.ver.toList == y.ver.toList) && (pairs sameS x.owns y.owns && (pairs Fu.same x.funcs y.funcs))))) := by
  simp only [Fa.same, Fa.ds, D.sames, D.same, same_strs, same_rows Fu.len, Bool.and_true]
  rfl
theorem Wo.same_eq (x y : Wo) : Wo.same x y = ((x.pkg.toList == y.pkg.toList) && ((x.name.toList == y.name.toList) && ((x.ver.toList == y.ver.toList) && (pairs Fa.same x.imps y.imps && (pairs Fa.same x.exps y.exps))))) := by
  simp only [Wo.same, Wo.ds, D.sames, D.same, same_rows Fa.len, Bool.and_true]
  rfl
theorem Tok.same_eq (x y : Tok) : Tok.same x y = ((x.kind == y.kind) && ((x.text.toList == y.text.toList) && ((x.line == y.line)))) := by
  simp only [Tok.same, Tok.ds, D.sames, D.same, Bool.and_true]
theorem Ty.same_refl (x : Ty) : Ty.same x x = true := D.sames_refl _
theorem Pa.same_refl (x : Pa) : Pa.same x x = true := D.sames_refl _
theorem Fn.same_refl (x : Fn) : Fn.same x x = true := D.sames_refl _
theorem Fu.same_refl (x : Fu) : Fu.same x x = true := D.sames_refl _
theorem Fa.same_refl (x : Fa) : Fa.same x x = true := D.sames_refl _
theorem Wo.same_refl (x : Wo) : Wo.same x x = true := D.sames_refl _
theorem Tok.same_refl (x : Tok) : Tok.same x x = true := D.sames_refl _
section
variable {w : World} {S : Nat → Prop}
theorem Tok.form {x : Tok} {cs : List Value} (h : D.Ats w S x.ds cs) : ∃ k t n, cs = [.int .i64 k, .string t, .int .i64 n] := by
  unfold Tok.ds at h
  obtain ⟨vs, rfl, h1, h⟩ := h.int_cell
  obtain ⟨vs, rfl, h2, h⟩ := h.str_cell
  obtain ⟨vs, rfl, h3, h⟩ := h.int_cell
  obtain rfl := h.nil_cell
  exact ⟨_, _, _, rfl⟩
theorem Ty.open_ {k : Int} {n : ByteArray} {l : List ByteArray} {kids : List Ty} {cs : List Value} (h : D.Ats w S (Ty.ds (.mk k n l kids)) cs) :
    ∃ A c A' c', cs = [.int .i64 k, .string n, .slice A l.length c, .slice A' kids.length c'] ∧ (-9223372036854775808 ≤ k ∧ k ≤ 9223372036854775807) ∧ n.size ≤ maxLen ∧
      D.At w S (strs l) (.slice A l.length c) ∧ D.At w S (rows Ty.ds 4 kids) (.slice A' kids.length c') := by
  rw [Ty.ds_eq] at h
  obtain ⟨vs, rfl, h1, h⟩ := h.int_cell
  obtain ⟨vs, rfl, h2, h⟩ := h.str_cell
  obtain ⟨A, c, vs, rfl, h3, h⟩ := D.Ats.rows_cell strD_length h
  obtain ⟨A', c', vs, rfl, h4, h⟩ := D.Ats.rows_cell Ty.len h
  obtain rfl := h.nil_cell
  exact ⟨A, c, A', c', rfl, h1, h2, h3, h4⟩
theorem Ty.mk_ {k : Int} {n : ByteArray} {l : List ByteArray} {kids : List Ty} {v v' : Value} (h1 : -9223372036854775808 ≤ k ∧ k ≤ 9223372036854775807) (h2 : n.size ≤ maxLen) (h3 : D.At w S (strs l) v) (h4 : D.At w S (rows Ty.ds 4 kids) v') :
    D.Ats w S (Ty.ds (.mk k n l kids)) [.int .i64 k, .string n, v, v'] := by
  rw [Ty.ds_eq]
  exact .cons (.mk_int h1) (.cons (.mk_str h2) (.cons h3 (.cons h4 .nil)))
theorem Ty.form {x : Ty} {cs : List Value} (h : D.Ats w S x.ds cs) : ∃ k n A m c A' m' c', cs = [.int .i64 k, .string n, .slice A m c, .slice A' m' c'] := by
  obtain ⟨k, n, l, kids⟩ := x
  obtain ⟨A, c, A', c', rfl, -⟩ := Ty.open_ h
  exact ⟨k, n, A, _, c, A', _, c', rfl⟩
theorem Pa.open_ {x : Pa} {cs : List Value} (h : D.Ats w S x.ds cs) :
    ∃ k n A m c A' m' c', cs = [.string x.name, .int .i64 k, .string n, .slice A m c, .slice A' m' c'] ∧ x.name.size ≤ maxLen ∧ D.Ats w S x.ty.ds [.int .i64 k, .string n, .slice A m c, .slice A' m' c'] := by
  obtain ⟨vs, rfl, h1, h⟩ := D.Ats.str_cell (r := x.ty.ds) h
  obtain ⟨k, n, A, m, c, A', m', c', rfl⟩ := Ty.form h
  exact ⟨k, n, A, m, c, A', m', c', rfl, h1, h⟩
theorem Pa.mk_ {x : Pa} {vs : List Value} (h1 : x.name.size ≤ maxLen) (h : D.Ats w S x.ty.ds vs) : D.Ats w S x.ds (.string x.name :: vs) := .cons (.mk_str h1) h
theorem Pa.form {x : Pa} {cs : List Value} (h : D.Ats w S x.ds cs) : ∃ p k n A m c A' m' c', cs = [.string p, .int .i64 k, .string n, .slice A m c, .slice A' m' c'] := by
  obtain ⟨k, n, A, m, c, A', m', c', rfl, -⟩ := Pa.open_ h
  exact ⟨_, k, n, A, m, c, A', m', c', rfl⟩
theorem Fn.open_ {x : Fn} {cs : List Value} (h : D.Ats w S x.ds cs) :
    ∃ B d k n A m c A' m' c', cs = [.slice B x.params.length d, .int .i64 k, .string n, .slice A m c, .slice A' m' c', .bool x.async] ∧ D.At w S (rows Pa.ds 5 x.params) (.slice B x.params.length d) ∧
      D.Ats w S x.res.ds [.int .i64 k, .string n, .slice A m c, .slice A' m' c'] := by
  obtain ⟨B, d, vs, rfl, h1, h⟩ := D.Ats.rows_cell Pa.len (r := x.res.ds ++ [.bool x.async]) h
  obtain ⟨ys, zs, rfl, h2, h3⟩ := h.split
  obtain ⟨k, n, A, m, c, A', m', c', rfl⟩ := Ty.form h2
  obtain ⟨ws, rfl, h4⟩ := h3.bool_cell
  obtain rfl := h4.nil_cell
  exact ⟨B, d, k, n, A, m, c, A', m', c', rfl, h1, h2⟩
theorem Fn.mk_ {x : Fn} {v : Value} {vs : List Value} (h1 : D.At w S (rows Pa.ds 5 x.params) v) (h : D.Ats w S x.res.ds vs) : D.Ats w S x.ds (v :: (vs ++ [.bool x.async])) :=
  .cons h1 (h.append (.cons .mk_bool .nil))
theorem Fn.form {x : Fn} {cs : List Value} (h : D.Ats w S x.ds cs) : ∃ B e d k n A m c A' m' c' b, cs = [.slice B e d, .int .i64 k, .string n, .slice A m c, .slice A' m' c', .bool b] := by
  obtain ⟨B, d, k, n, A, m, c, A', m', c', rfl, -⟩ := Fn.open_ h
  exact ⟨B, _, d, k, n, A, m, c, A', m', c', _, rfl⟩
theorem Fu.open_ {x : Fu} {cs : List Value} (h : D.Ats w S x.ds cs) :
    ∃ B e d k n A m c A' m' c' b, cs = [.string x.name, .slice B e d, .int .i64 k, .string n, .slice A m c, .slice A' m' c', .bool b] ∧ x.name.size ≤ maxLen ∧
      D.Ats w S x.ty.ds [.slice B e d, .int .i64 k, .string n, .slice A m c, .slice A' m' c', .bool b] := by
  obtain ⟨vs, rfl, h1, h⟩ := D.Ats.str_cell (r := x.ty.ds) h
  obtain ⟨B, e, d, k, n, A, m, c, A', m', c', b, rfl⟩ := Fn.form h
  exact ⟨B, e, d, k, n, A, m, c, A', m', c', b, rfl, h1, h⟩
theorem Fu.mk_ {x : Fu} {vs : List Value} (h1 : x.name.size ≤ maxLen) (h : D.Ats w S x.ty.ds vs) : D.Ats w S x.ds (.string x.name :: vs) := .cons (.mk_str h1) h
theorem Fu.form {x : Fu} {cs : List Value} (h : D.Ats w S x.ds cs) : ∃ p B e d k n A m c A' m' c' b, cs = [.string p, .slice B e d, .int .i64 k, .string n, .slice A m c, .slice A' m' c', .bool b] := by
  obtain ⟨B, e, d, k, n, A, m, c, A', m', c', b, rfl, -⟩ := Fu.open_ h
  exact ⟨_, B, e, d, k, n, A, m, c, A', m', c', b, rfl⟩
theorem Fa.open_ {x : Fa} {cs : List Value} (h : D.Ats w S x.ds cs) :
    ∃ A c A' c', cs = [.string x.pkg, .string x.name, .string x.ver, .slice A x.owns.length c, .slice A' x.funcs.length c'] ∧ x.pkg.size ≤ maxLen ∧ x.name.size ≤ maxLen ∧ x.ver.size ≤ maxLen ∧
      D.At w S (strs x.owns) (.slice A x.owns.length c) ∧ D.At w S (rows Fu.ds 7 x.funcs) (.slice A' x.funcs.length c') := by
  unfold Fa.ds at h
  obtain ⟨vs, rfl, h1, h⟩ := h.str_cell
  obtain ⟨vs, rfl, h2, h⟩ := h.str_cell
  obtain ⟨vs, rfl, h3, h⟩ := h.str_cell
  obtain ⟨A, c, vs, rfl, h4, h⟩ := D.Ats.rows_cell strD_length h
  obtain ⟨A', c', vs, rfl, h5, h⟩ := D.Ats.rows_cell Fu.len h
  obtain rfl := h.nil_cell
  exact ⟨A, c, A', c', rfl, h1, h2, h3, h4, h5⟩
theorem Fa.mk_ {x : Fa} {v v' : Value} (h1 : x.pkg.size ≤ maxLen) (h2 : x.name.size ≤ maxLen) (h3 : x.ver.size ≤ maxLen) (h4 : D.At w S (strs x.owns) v) (h5 : D.At w S (rows Fu.ds 7 x.funcs) v') :
    D.Ats w S x.ds [.string x.pkg, .string x.name, .string x.ver, v, v'] := .cons (.mk_str h1) (.cons (.mk_str h2) (.cons (.mk_str h3) (.cons h4 (.cons h5 .nil))))
theorem Fa.form {x : Fa} {cs : List Value} (h : D.Ats w S x.ds cs) : ∃ p q r A m c A' m' c', cs = [.string p, .string q, .string r, .slice A m c, .slice A' m' c'] := by
  obtain ⟨A, c, A', c', rfl, -⟩ := Fa.open_ h
  exact ⟨_, _, _, A, _, c, A', _, c', rfl⟩
theorem Wo.open_ {x : Wo} {cs : List Value} (h : D.Ats w S x.ds cs) :
    ∃ A c A' c', cs = [.string x.pkg, .string x.name, .string x.ver, .slice A x.imps.length c, .slice A' x.exps.length c'] ∧ x.pkg.size ≤ maxLen ∧ x.name.size ≤ maxLen ∧ x.ver.size ≤ maxLen ∧
      D.At w S (rows Fa.ds 5 x.imps) (.slice A x.imps.length c) ∧ D.At w S (rows Fa.ds 5 x.exps) (.slice A' x.exps.length c') := by
  unfold Wo.ds at h
  obtain ⟨vs, rfl, h1, h⟩ := h.str_cell
  obtain ⟨vs, rfl, h2, h⟩ := h.str_cell
  obtain ⟨vs, rfl, h3, h⟩ := h.str_cell
  obtain ⟨A, c, vs, rfl, h4, h⟩ := D.Ats.rows_cell Fa.len h
  obtain ⟨A', c', vs, rfl, h5, h⟩ := D.Ats.rows_cell Fa.len h
  obtain rfl := h.nil_cell
  exact ⟨A, c, A', c', rfl, h1, h2, h3, h4, h5⟩
theorem Wo.mk_ {x : Wo} {v v' : Value} (h1 : x.pkg.size ≤ maxLen) (h2 : x.name.size ≤ maxLen) (h3 : x.ver.size ≤ maxLen) (h4 : D.At w S (rows Fa.ds 5 x.imps) v) (h5 : D.At w S (rows Fa.ds 5 x.exps) v') :
    D.Ats w S x.ds [.string x.pkg, .string x.name, .string x.ver, v, v'] := .cons (.mk_str h1) (.cons (.mk_str h2) (.cons (.mk_str h3) (.cons h4 (.cons h5 .nil))))
theorem Wo.form {x : Wo} {cs : List Value} (h : D.Ats w S x.ds cs) : ∃ p q r A m c A' m' c', cs = [.string p, .string q, .string r, .slice A m c, .slice A' m' c'] := by
  obtain ⟨A, c, A', c', rfl, -⟩ := Wo.open_ h
  exact ⟨_, _, _, A, _, c, A', _, c', rfl⟩
theorem Tok.open_ {x : Tok} {cs : List Value} (h : D.Ats w S x.ds cs) :
    cs = [.int .i64 x.kind, .string x.text, .int .i64 x.line] ∧ (-9223372036854775808 ≤ x.kind ∧ x.kind ≤ 9223372036854775807) ∧ x.text.size ≤ maxLen ∧ (-9223372036854775808 ≤ x.line ∧ x.line ≤ 9223372036854775807) := by
  unfold Tok.ds at h
  obtain ⟨vs, rfl, h1, h⟩ := h.int_cell
  obtain ⟨vs, rfl, h2, h⟩ := h.str_cell
  obtain ⟨vs, rfl, h3, h⟩ := h.int_cell
  obtain rfl := h.nil_cell
  exact ⟨rfl, h1, h2, h3⟩
theorem Tok.mk_ {x : Tok} (h1 : -9223372036854775808 ≤ x.kind ∧ x.kind ≤ 9223372036854775807) (h2 : x.text.size ≤ maxLen) (h3 : -9223372036854775808 ≤ x.line ∧ x.line ≤ 9223372036854775807) :
    D.Ats w S x.ds [.int .i64 x.kind, .string x.text, .int .i64 x.line] := .cons (.mk_int h1) (.cons (.mk_str h2) (.cons (.mk_int h3) .nil))
end
end Go.Proofs.YtcpadaelgdmipaaGreatDoor
