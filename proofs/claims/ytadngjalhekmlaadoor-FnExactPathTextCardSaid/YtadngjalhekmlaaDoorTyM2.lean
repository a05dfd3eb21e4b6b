/- Reasons and paths as models. No program in sight. -/
import Derived.Test.YtadngjalhekmlaaDoorTyM
namespace Go.Proofs.YtadngjalhekmlaaDoor
open Go.RowKit
structure Rs where
  kind : Int
  at_ : ByteArray
def Rs.ds (x : Rs) : List D := [.int x.kind, .str x.at_]
theorem Rs.len (x : Rs) : x.ds.length = 2 := rfl
def Rs.same (x y : Rs) : Bool := D.sames x.ds y.ds
theorem Rs.same_eq (x y : Rs) : Rs.same x y = ((x.kind == y.kind) && ((x.at_.toList == y.at_.toList))) := by
  simp only [Rs.same, Rs.ds, D.sames, D.same, Bool.and_true]
structure Pt where
  pkg : ByteArray
  name : ByteArray
  ver : ByteArray
def Pt.ds (x : Pt) : List D := [.str x.pkg, .str x.name, .str x.ver]
theorem Pt.len (x : Pt) : x.ds.length = 3 := rfl
def Pt.same (x y : Pt) : Bool := D.sames x.ds y.ds
theorem Pt.same_eq (x y : Pt) : Pt.same x y = ((x.pkg.toList == y.pkg.toList) && ((x.name.toList == y.name.toList) && ((x.ver.toList == y.ver.toList)))) := by
  simp only [Pt.same, Pt.ds, D.sames, D.same, Bool.and_true]
theorem Rs.same_refl (x : Rs) : Rs.same x x = true := D.sames_refl _
theorem Pt.same_refl (x : Pt) : Pt.same x x = true := D.sames_refl _
section
variable {w : World} {S : Nat → Prop}
theorem Rs.open_ {x : Rs} {cs : List Value} (h : D.Ats w S x.ds cs) :
    cs = [.int .i64 x.kind, .string x.at_] ∧ (-9223372036854775808 ≤ x.kind ∧ x.kind ≤ 9223372036854775807) ∧ x.at_.size ≤ maxLen := by
  unfold Rs.ds at h
  obtain ⟨vs, rfl, h1, h⟩ := h.int_cell
  obtain ⟨vs, rfl, h2, h⟩ := h.str_cell
  obtain rfl := h.nil_cell
  exact ⟨rfl, h1, h2⟩
theorem Rs.mk_ {x : Rs} (h1 : -9223372036854775808 ≤ x.kind ∧ x.kind ≤ 9223372036854775807) (h2 : x.at_.size ≤ maxLen) :
    D.Ats w S x.ds [.int .i64 x.kind, .string x.at_] := .cons (.mk_int h1) (.cons (.mk_str h2) .nil)
theorem Rs.form {x : Rs} {cs : List Value} (h : D.Ats w S x.ds cs) : ∃ k t, cs = [.int .i64 k, .string t] := ⟨_, _, (Rs.open_ h).1⟩
theorem Pt.open_ {x : Pt} {cs : List Value} (h : D.Ats w S x.ds cs) :
    cs = [.string x.pkg, .string x.name, .string x.ver] ∧ x.pkg.size ≤ maxLen ∧ x.name.size ≤ maxLen ∧ x.ver.size ≤ maxLen := by
  unfold Pt.ds at h
  obtain ⟨vs, rfl, h1, h⟩ := h.str_cell
  obtain ⟨vs, rfl, h2, h⟩ := h.str_cell
  obtain ⟨vs, rfl, h3, h⟩ := h.str_cell
  obtain rfl := h.nil_cell
  exact ⟨rfl, h1, h2, h3⟩
theorem Pt.mk_ {x : Pt} (h1 : x.pkg.size ≤ maxLen) (h2 : x.name.size ≤ maxLen) (h3 : x.ver.size ≤ maxLen) :
    D.Ats w S x.ds [.string x.pkg, .string x.name, .string x.ver] := .cons (.mk_str h1) (.cons (.mk_str h2) (.cons (.mk_str h3) .nil))
theorem Pt.form {x : Pt} {cs : List Value} (h : D.Ats w S x.ds cs) : ∃ p q r, cs = [.string p, .string q, .string r] := ⟨_, _, _, (Pt.open_ h).1⟩
end
end Go.Proofs.YtadngjalhekmlaaDoor
