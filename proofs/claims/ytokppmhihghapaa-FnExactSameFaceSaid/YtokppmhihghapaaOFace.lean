/- Face: an argument of the law opened. -/
import Derived.Test.YtokppmhihghapaaTyM
import Derived.Test.YtokppmhihghapaaOFunc
namespace Go.Proofs.Ytokppmhihghapaa
open Go.RowKit Go.ChangeShapes Go.WideShapes

theorem cells_lFace : Try.prog.cellsOf 74 = 5 := by kernel_rfl
theorem cells_lFaceS : Try.prog.cellsOf 82 = 1 := by kernel_rfl
set_option maxRecDepth 20000 in
theorem Face_of_trod {H : Type} {enc : TypeId × Value → H} {w : World} {base : Nat} {spare : Nat → Bool} {held : Bool} (n : Nat) : ∀ (cs : List Value) (x : DataW H × List MemPlace),
    DataW.trod enc Try.prog w base spare held n 74 cs = some x → ∃ y : Fa, D.Ats w anyB y.ds cs := by
  intro cs x h
  obtain ⟨xs, m, hm, _, hlen, hxl, hf⟩ := DataW.trod_struct Try.underlying74 h
  rw [cells_lFace] at hlen
  match cs, hlen, xs, hxl, hf with
  | [c0, c1, c2, c3, c4], _, [y0, y1, y2, y3, y4], _, hf =>
    have h0 : DataW.trod enc Try.prog w base spare held m 9 [c0] = some y0 := by
      have h := hf 0 _ rfl
      change DataW.trod enc Try.prog w base spare held m 9 (([c0, c1, c2, c3, c4].drop 0).take (Try.prog.cellsOf 9)) = some y0 at h
      rw [cells_string] at h
      exact h
    have h1 : DataW.trod enc Try.prog w base spare held m 9 [c1] = some y1 := by
      have h := hf 1 _ rfl
      change DataW.trod enc Try.prog w base spare held m 9 (([c0, c1, c2, c3, c4].drop 1).take (Try.prog.cellsOf 9)) = some y1 at h
      rw [cells_string] at h
      exact h
    have h2 : DataW.trod enc Try.prog w base spare held m 9 [c2] = some y2 := by
      have h := hf 2 _ rfl
      change DataW.trod enc Try.prog w base spare held m 9 (([c0, c1, c2, c3, c4].drop 2).take (Try.prog.cellsOf 9)) = some y2 at h
      rw [cells_string] at h
      exact h
    have h3 : DataW.trod enc Try.prog w base spare held m 51 [c3] = some y3 := by
      have h := hf 3 _ rfl
      change DataW.trod enc Try.prog w base spare held m 51 (([c0, c1, c2, c3, c4].drop 3).take (Try.prog.cellsOf 51)) = some y3 at h
      rw [cells_strings] at h
      exact h
    have h4 : DataW.trod enc Try.prog w base spare held m 72 [c4] = some y4 := by
      have h := hf 4 _ rfl
      change DataW.trod enc Try.prog w base spare held m 72 (([c0, c1, c2, c3, c4].drop 4).take (Try.prog.cellsOf 72)) = some y4 at h
      rw [cells_lFuncS] at h
      exact h
    obtain ⟨a0, e0, _, w0⟩ := DataW.trod_string Try.underlying9 h0
    obtain ⟨a1, e1, _, w1⟩ := DataW.trod_string Try.underlying9 h1
    obtain ⟨a2, e2, _, w2⟩ := DataW.trod_string Try.underlying9 h2
    obtain ⟨v3, a3, e3, w3⟩ := slice_of_trod (f := strD) (size := 1) Try.underlying51 cells_string (by omega) strD_length h3 (fun k' cs' y _ hy => str_of_trod k' cs' y hy)
    obtain ⟨v4, a4, e4, w4⟩ := slice_of_trod (f := Fu.ds) (size := 7) Try.underlying72 cells_lFunc (by omega) Fu.len h4 (fun k' cs' y _ hy => Func_of_trod k' cs' y hy)
    simp only [List.cons.injEq, and_true] at e0 e1 e2 e3 e4
    subst e0 e1 e2 e3 e4
    exact ⟨⟨a0, a1, a2, a3, a4⟩, Fa.mk_ (x := ⟨a0, a1, a2, a3, a4⟩) w0 w1 w2 w3 w4⟩
set_option maxRecDepth 20000 in
/-- An argument of the law. -/
theorem Face_arg {H : Type} {enc : TypeId × Value → H} {w : World} {base b0 : Nat} {v : Value} {d : DataW H} {p : List MemPlace} (hv : Value.okWide Try.prog w .any b0 74 v) (h : DataW.Trod enc Try.prog w base (fun _ => true) true 74 v d p) :
    ∃ (cs : List Value) (x : Fa), v = .agg cs.toArray ∧ D.Ats w anyB x.ds cs := by
  obtain ⟨cs, rfl, _⟩ := okWide_struct Try.underlying74 hv
  obtain ⟨n, hn⟩ := h
  obtain ⟨x, hx⟩ := Face_of_trod n _ _ hn
  exact ⟨cs.toList, x, by simp, by simpa [Value.cells] using hx⟩
end Go.Proofs.Ytokppmhihghapaa
