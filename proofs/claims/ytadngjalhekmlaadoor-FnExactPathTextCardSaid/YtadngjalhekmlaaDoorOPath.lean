/- Path: an argument of the law opened. -/
import Derived.Test.YtadngjalhekmlaaDoorTyM2
import Derived.Test.YtadngjalhekmlaaDoorOBase
namespace Go.Proofs.YtadngjalhekmlaaDoor
open Go.RowKit Go.ChangeShapes Go.WideShapes

theorem cells_lPath : Tryd.prog.cellsOf 43 = 3 := by kernel_rfl
set_option maxRecDepth 20000 in
theorem Path_of_trod {H : Type} {enc : TypeId × Value → H} {w : World} {base : Nat} {spare : Nat → Bool} {held : Bool} (n : Nat) : ∀ (cs : List Value) (x : DataW H × List MemPlace),
    DataW.trod enc Tryd.prog w base spare held n 43 cs = some x → ∃ y : Pt, D.Ats w anyB y.ds cs := by
  intro cs x h
  obtain ⟨xs, m, hm, _, hlen, hxl, hf⟩ := DataW.trod_struct Tryd.underlying43 h
  rw [cells_lPath] at hlen
  match cs, hlen, xs, hxl, hf with
  | [c0, c1, c2], _, [y0, y1, y2], _, hf =>
    have h0 : DataW.trod enc Tryd.prog w base spare held m 9 [c0] = some y0 := by
      have h := hf 0 _ rfl
      change DataW.trod enc Tryd.prog w base spare held m 9 (([c0, c1, c2].drop 0).take (Tryd.prog.cellsOf 9)) = some y0 at h
      rw [cells_string] at h
      exact h
    have h1 : DataW.trod enc Tryd.prog w base spare held m 9 [c1] = some y1 := by
      have h := hf 1 _ rfl
      change DataW.trod enc Tryd.prog w base spare held m 9 (([c0, c1, c2].drop 1).take (Tryd.prog.cellsOf 9)) = some y1 at h
      rw [cells_string] at h
      exact h
    have h2 : DataW.trod enc Tryd.prog w base spare held m 9 [c2] = some y2 := by
      have h := hf 2 _ rfl
      change DataW.trod enc Tryd.prog w base spare held m 9 (([c0, c1, c2].drop 2).take (Tryd.prog.cellsOf 9)) = some y2 at h
      rw [cells_string] at h
      exact h
    obtain ⟨a0, e0, _, w0⟩ := DataW.trod_string Tryd.underlying9 h0
    obtain ⟨a1, e1, _, w1⟩ := DataW.trod_string Tryd.underlying9 h1
    obtain ⟨a2, e2, _, w2⟩ := DataW.trod_string Tryd.underlying9 h2
    simp only [List.cons.injEq, and_true] at e0 e1 e2
    subst e0 e1 e2
    exact ⟨⟨a0, a1, a2⟩, Pt.mk_ (x := ⟨a0, a1, a2⟩) w0 w1 w2⟩
set_option maxRecDepth 20000 in
/-- An argument of the law. -/
theorem Path_arg {H : Type} {enc : TypeId × Value → H} {w : World} {base b0 : Nat} {v : Value} {d : DataW H} {p : List MemPlace} (hv : Value.okWide Tryd.prog w .any b0 43 v) (h : DataW.Trod enc Tryd.prog w base (fun _ => true) true 43 v d p) :
    ∃ (cs : List Value) (x : Pt), v = .agg cs.toArray ∧ D.Ats w anyB x.ds cs := by
  obtain ⟨cs, rfl, _⟩ := okWide_struct Tryd.underlying43 hv
  obtain ⟨n, hn⟩ := h
  obtain ⟨x, hx⟩ := Path_of_trod n _ _ hn
  exact ⟨cs.toList, x, by simp, by simpa [Value.cells] using hx⟩
end Go.Proofs.YtadngjalhekmlaaDoor
