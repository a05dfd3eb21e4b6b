/- Param: an argument of the law opened. -/
import Derived.Test.YtoioljkhinodaaaGreatDoorTyM
import Derived.Test.YtoioljkhinodaaaGreatDoorOType
namespace Go.Proofs.YtoioljkhinodaaaGreatDoor
open Go.RowKit Go.ChangeShapes Go.WideShapes

theorem cells_lParam : Tryz.prog.cellsOf 94 = 5 := by kernel_rfl
theorem cells_lParamS : Tryz.prog.cellsOf 38 = 1 := by kernel_rfl
set_option maxRecDepth 20000 in
theorem Param_of_trod {H : Type} {enc : TypeId × Value → H} {w : World} {base : Nat} {spare : Nat → Bool} {held : Bool} (n : Nat) : ∀ (cs : List Value) (x : DataW H × List MemPlace),
    DataW.trod enc Tryz.prog w base spare held n 94 cs = some x → ∃ y : Pa, D.Ats w anyB y.ds cs := by
  intro cs x h
  obtain ⟨xs, m, hm, _, hlen, hxl, hf⟩ := DataW.trod_struct Tryz.underlying94 h
  rw [cells_lParam] at hlen
  match cs, hlen, xs, hxl, hf with
  | [c0, c1, c2, c3, c4], _, [y0, y1], _, hf =>
    have h0 : DataW.trod enc Tryz.prog w base spare held m 9 [c0] = some y0 := by
      have h := hf 0 _ rfl
      change DataW.trod enc Tryz.prog w base spare held m 9 (([c0, c1, c2, c3, c4].drop 0).take (Tryz.prog.cellsOf 9)) = some y0 at h
      rw [cells_string] at h
      exact h
    have h1 : DataW.trod enc Tryz.prog w base spare held m 25 [c1, c2, c3, c4] = some y1 := by
      have h := hf 1 _ rfl
      change DataW.trod enc Tryz.prog w base spare held m 25 (([c0, c1, c2, c3, c4].drop 1).take (Tryz.prog.cellsOf 25)) = some y1 at h
      rw [cells_lType] at h
      exact h
    obtain ⟨a0, e0, _, w0⟩ := DataW.trod_string Tryz.underlying9 h0
    obtain ⟨a1, w1⟩ := Type_of_trod _ _ _ h1
    simp only [List.cons.injEq, and_true] at e0
    subst e0
    exact ⟨⟨a0, a1⟩, Pa.mk_ (x := ⟨a0, a1⟩) w0 w1⟩
set_option maxRecDepth 20000 in
/-- An argument of the law. -/
theorem Param_arg {H : Type} {enc : TypeId × Value → H} {w : World} {base b0 : Nat} {v : Value} {d : DataW H} {p : List MemPlace} (hv : Value.okWide Tryz.prog w .any b0 94 v) (h : DataW.Trod enc Tryz.prog w base (fun _ => true) true 94 v d p) :
    ∃ (cs : List Value) (x : Pa), v = .agg cs.toArray ∧ D.Ats w anyB x.ds cs := by
  obtain ⟨cs, rfl, _⟩ := okWide_struct Tryz.underlying94 hv
  obtain ⟨n, hn⟩ := h
  obtain ⟨x, hx⟩ := Param_of_trod n _ _ hn
  exact ⟨cs.toList, x, by simp, by simpa [Value.cells] using hx⟩
end Go.Proofs.YtoioljkhinodaaaGreatDoor
