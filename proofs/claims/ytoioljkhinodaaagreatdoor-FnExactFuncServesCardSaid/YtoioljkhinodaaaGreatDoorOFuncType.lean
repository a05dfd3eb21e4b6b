/- FuncType: an argument of the law opened. -/
import Derived.Test.YtoioljkhinodaaaGreatDoorTyM
import Derived.Test.YtoioljkhinodaaaGreatDoorOParam
import Derived.Test.YtoioljkhinodaaaGreatDoorOType
namespace Go.Proofs.YtoioljkhinodaaaGreatDoor
open Go.RowKit Go.ChangeShapes Go.WideShapes

theorem cells_lFuncType : Tryz.prog.cellsOf 40 = 6 := by kernel_rfl
set_option maxRecDepth 20000 in
theorem FuncType_of_trod {H : Type} {enc : TypeId × Value → H} {w : World} {base : Nat} {spare : Nat → Bool} {held : Bool} (n : Nat) : ∀ (cs : List Value) (x : DataW H × List MemPlace),
    DataW.trod enc Tryz.prog w base spare held n 40 cs = some x → ∃ y : Fn, D.Ats w anyB y.ds cs := by
  intro cs x h
  obtain ⟨xs, m, hm, _, hlen, hxl, hf⟩ := DataW.trod_struct Tryz.underlying40 h
  rw [cells_lFuncType] at hlen
  match cs, hlen, xs, hxl, hf with
  | [c0, c1, c2, c3, c4, c5], _, [y0, y1, y2], _, hf =>
    have h0 : DataW.trod enc Tryz.prog w base spare held m 38 [c0] = some y0 := by
      have h := hf 0 _ rfl
      change DataW.trod enc Tryz.prog w base spare held m 38 (([c0, c1, c2, c3, c4, c5].drop 0).take (Tryz.prog.cellsOf 38)) = some y0 at h
      rw [cells_lParamS] at h
      exact h
    have h1 : DataW.trod enc Tryz.prog w base spare held m 25 [c1, c2, c3, c4] = some y1 := by
      have h := hf 1 _ rfl
      change DataW.trod enc Tryz.prog w base spare held m 25 (([c0, c1, c2, c3, c4, c5].drop 1).take (Tryz.prog.cellsOf 25)) = some y1 at h
      rw [cells_lType] at h
      exact h
    have h2 : DataW.trod enc Tryz.prog w base spare held m 4 [c5] = some y2 := by
      have h := hf 2 _ rfl
      change DataW.trod enc Tryz.prog w base spare held m 4 (([c0, c1, c2, c3, c4, c5].drop 5).take (Tryz.prog.cellsOf 4)) = some y2 at h
      rw [cells_bool] at h
      exact h
    obtain ⟨v0, a0, e0, w0⟩ := slice_of_trod (f := Pa.ds) (size := 5) Tryz.underlying38 cells_lParam (by omega) Pa.len h0 (fun k' cs' y _ hy => Param_of_trod k' cs' y hy)
    obtain ⟨a1, w1⟩ := Type_of_trod _ _ _ h1
    obtain ⟨a2, e2, _⟩ := DataW.trod_bool Tryz.underlying4 h2
    simp only [List.cons.injEq, and_true] at e0 e2
    subst e0 e2
    exact ⟨⟨a0, a1, a2⟩, Fn.mk_ (x := ⟨a0, a1, a2⟩) w0 w1⟩
set_option maxRecDepth 20000 in
/-- An argument of the law. -/
theorem FuncType_arg {H : Type} {enc : TypeId × Value → H} {w : World} {base b0 : Nat} {v : Value} {d : DataW H} {p : List MemPlace} (hv : Value.okWide Tryz.prog w .any b0 40 v) (h : DataW.Trod enc Tryz.prog w base (fun _ => true) true 40 v d p) :
    ∃ (cs : List Value) (x : Fn), v = .agg cs.toArray ∧ D.Ats w anyB x.ds cs := by
  obtain ⟨cs, rfl, _⟩ := okWide_struct Tryz.underlying40 hv
  obtain ⟨n, hn⟩ := h
  obtain ⟨x, hx⟩ := FuncType_of_trod n _ _ hn
  exact ⟨cs.toList, x, by simp, by simpa [Value.cells] using hx⟩
end Go.Proofs.YtoioljkhinodaaaGreatDoor
