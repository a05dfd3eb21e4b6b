/- Param: an argument of the law opened. FuncType: an argument of the law opened. Func: an argument of the law opened. Face: an argument of the law opened. World: an argument of the law opened. -/
import Derived.Test.YtklhkdihokgpeaaGreatDoorTyM
import Derived.Test.YtklhkdihokgpeaaGreatDoorOType
namespace Go.Proofs.YtklhkdihokgpeaaGreatDoor
open Go.RowKit Go.ChangeShapes Go.WideShapes

theorem cells_lParam : Tryz.prog.cellsOf 170 = 5 := by kernel_rfl
theorem cells_lParamS : Tryz.prog.cellsOf 86 = 1 := by kernel_rfl
set_option maxRecDepth 20000 in
theorem Param_of_trod {H : Type} {enc : TypeId × Value → H} {w : World} {base : Nat} {spare : Nat → Bool} {held : Bool} (n : Nat) : ∀ (cs : List Value) (x : DataW H × List MemPlace),
    DataW.trod enc Tryz.prog w base spare held n 170 cs = some x → ∃ y : Pa, D.Ats w anyB y.ds cs := by
  intro cs x h
  obtain ⟨xs, m, hm, _, hlen, hxl, hf⟩ := DataW.trod_struct Tryz.underlying170 h
  rw [cells_lParam] at hlen
  match cs, hlen, xs, hxl, hf with
  | [c0, c1, c2, c3, c4], _, [y0, y1], _, hf =>
    have h0 : DataW.trod enc Tryz.prog w base spare held m 9 [c0] = some y0 := by
      have h := hf 0 _ rfl
      change DataW.trod enc Tryz.prog w base spare held m 9 (([c0, c1, c2, c3, c4].drop 0).take (Tryz.prog.cellsOf 9)) = some y0 at h
      rw [cells_string] at h
      exact h
    have h1 : DataW.trod enc Tryz.prog w base spare held m 89 [c1, c2, c3, c4] = some y1 := by
      have h := hf 1 _ rfl
      change DataW.trod enc Tryz.prog w base spare held m 89 (([c0, c1, c2, c3, c4].drop 1).take (Tryz.prog.cellsOf 89)) = some y1 at h
      rw [cells_lType] at h
      exact h
    obtain ⟨a0, e0, _, w0⟩ := DataW.trod_string Tryz.underlying9 h0
    obtain ⟨a1, w1⟩ := Type_of_trod _ _ _ h1
    simp only [List.cons.injEq, and_true] at e0
    subst e0
    exact ⟨⟨a0, a1⟩, Pa.mk_ (x := ⟨a0, a1⟩) w0 w1⟩
set_option maxRecDepth 20000 in
/-- An argument of the law. -/
theorem Param_arg {H : Type} {enc : TypeId × Value → H} {w : World} {base b0 : Nat} {v : Value} {d : DataW H} {p : List MemPlace} (hv : Value.okWide Tryz.prog w .any b0 170 v) (h : DataW.Trod enc Tryz.prog w base (fun _ => true) true 170 v d p) :
    ∃ (cs : List Value) (x : Pa), v = .agg cs.toArray ∧ D.Ats w anyB x.ds cs := by
  obtain ⟨cs, rfl, _⟩ := okWide_struct Tryz.underlying170 hv
  obtain ⟨n, hn⟩ := h
  obtain ⟨x, hx⟩ := Param_of_trod n _ _ hn
  exact ⟨cs.toList, x, by simp, by simpa [Value.cells] using hx⟩
end Go.Proofs.YtklhkdihokgpeaaGreatDoor
namespace Go.Proofs.YtklhkdihokgpeaaGreatDoor
open Go.RowKit Go.ChangeShapes Go.WideShapes

theorem cells_lFuncType : Tryz.prog.cellsOf 91 = 6 := by kernel_rfl
set_option maxRecDepth 20000 in
theorem FuncType_of_trod {H : Type} {enc : TypeId × Value → H} {w : World} {base : Nat} {spare : Nat → Bool} {held : Bool} (n : Nat) : ∀ (cs : List Value) (x : DataW H × List MemPlace),
    DataW.trod enc Tryz.prog w base spare held n 91 cs = some x → ∃ y : Fn, D.Ats w anyB y.ds cs := by
  intro cs x h
  obtain ⟨xs, m, hm, _, hlen, hxl, hf⟩ := DataW.trod_struct Tryz.underlying91 h
  rw [cells_lFuncType] at hlen
  match cs, hlen, xs, hxl, hf with
  | [c0, c1, c2, c3, c4, c5], _, [y0, y1, y2], _, hf =>
    have h0 : DataW.trod enc Tryz.prog w base spare held m 86 [c0] = some y0 := by
      have h := hf 0 _ rfl
      change DataW.trod enc Tryz.prog w base spare held m 86 (([c0, c1, c2, c3, c4, c5].drop 0).take (Tryz.prog.cellsOf 86)) = some y0 at h
      rw [cells_lParamS] at h
      exact h
    have h1 : DataW.trod enc Tryz.prog w base spare held m 89 [c1, c2, c3, c4] = some y1 := by
      have h := hf 1 _ rfl
      change DataW.trod enc Tryz.prog w base spare held m 89 (([c0, c1, c2, c3, c4, c5].drop 1).take (Tryz.prog.cellsOf 89)) = some y1 at h
      rw [cells_lType] at h
      exact h
    have h2 : DataW.trod enc Tryz.prog w base spare held m 4 [c5] = some y2 := by
      have h := hf 2 _ rfl
      change DataW.trod enc Tryz.prog w base spare held m 4 (([c0, c1, c2, c3, c4, c5].drop 5).take (Tryz.prog.cellsOf 4)) = some y2 at h
      rw [cells_bool] at h
      exact h
    obtain ⟨v0, a0, e0, w0⟩ := slice_of_trod (f := Pa.ds) (size := 5) Tryz.underlying86 cells_lParam (by omega) Pa.len h0 (fun k' cs' y _ hy => Param_of_trod k' cs' y hy)
    obtain ⟨a1, w1⟩ := Type_of_trod _ _ _ h1
    obtain ⟨a2, e2, _⟩ := DataW.trod_bool Tryz.underlying4 h2
    simp only [List.cons.injEq, and_true] at e0 e2
    subst e0 e2
    exact ⟨⟨a0, a1, a2⟩, Fn.mk_ (x := ⟨a0, a1, a2⟩) w0 w1⟩
set_option maxRecDepth 20000 in
/-- An argument of the law. -/
theorem FuncType_arg {H : Type} {enc : TypeId × Value → H} {w : World} {base b0 : Nat} {v : Value} {d : DataW H} {p : List MemPlace} (hv : Value.okWide Tryz.prog w .any b0 91 v) (h : DataW.Trod enc Tryz.prog w base (fun _ => true) true 91 v d p) :
    ∃ (cs : List Value) (x : Fn), v = .agg cs.toArray ∧ D.Ats w anyB x.ds cs := by
  obtain ⟨cs, rfl, _⟩ := okWide_struct Tryz.underlying91 hv
  obtain ⟨n, hn⟩ := h
  obtain ⟨x, hx⟩ := FuncType_of_trod n _ _ hn
  exact ⟨cs.toList, x, by simp, by simpa [Value.cells] using hx⟩
end Go.Proofs.YtklhkdihokgpeaaGreatDoor
namespace Go.Proofs.YtklhkdihokgpeaaGreatDoor
open Go.RowKit Go.ChangeShapes Go.WideShapes

theorem cells_lFunc : Tryz.prog.cellsOf 93 = 7 := by kernel_rfl
theorem cells_lFuncS : Tryz.prog.cellsOf 23 = 1 := by kernel_rfl
set_option maxRecDepth 20000 in
theorem Func_of_trod {H : Type} {enc : TypeId × Value → H} {w : World} {base : Nat} {spare : Nat → Bool} {held : Bool} (n : Nat) : ∀ (cs : List Value) (x : DataW H × List MemPlace),
    DataW.trod enc Tryz.prog w base spare held n 93 cs = some x → ∃ y : Fu, D.Ats w anyB y.ds cs := by
  intro cs x h
  obtain ⟨xs, m, hm, _, hlen, hxl, hf⟩ := DataW.trod_struct Tryz.underlying93 h
  rw [cells_lFunc] at hlen
  match cs, hlen, xs, hxl, hf with
  | [c0, c1, c2, c3, c4, c5, c6], _, [y0, y1], _, hf =>
    have h0 : DataW.trod enc Tryz.prog w base spare held m 9 [c0] = some y0 := by
      have h := hf 0 _ rfl
      change DataW.trod enc Tryz.prog w base spare held m 9 (([c0, c1, c2, c3, c4, c5, c6].drop 0).take (Tryz.prog.cellsOf 9)) = some y0 at h
      rw [cells_string] at h
      exact h
    have h1 : DataW.trod enc Tryz.prog w base spare held m 91 [c1, c2, c3, c4, c5, c6] = some y1 := by
      have h := hf 1 _ rfl
      change DataW.trod enc Tryz.prog w base spare held m 91 (([c0, c1, c2, c3, c4, c5, c6].drop 1).take (Tryz.prog.cellsOf 91)) = some y1 at h
      rw [cells_lFuncType] at h
      exact h
    obtain ⟨a0, e0, _, w0⟩ := DataW.trod_string Tryz.underlying9 h0
    obtain ⟨a1, w1⟩ := FuncType_of_trod _ _ _ h1
    simp only [List.cons.injEq, and_true] at e0
    subst e0
    exact ⟨⟨a0, a1⟩, Fu.mk_ (x := ⟨a0, a1⟩) w0 w1⟩
set_option maxRecDepth 20000 in
/-- An argument of the law. -/
theorem Func_arg {H : Type} {enc : TypeId × Value → H} {w : World} {base b0 : Nat} {v : Value} {d : DataW H} {p : List MemPlace} (hv : Value.okWide Tryz.prog w .any b0 93 v) (h : DataW.Trod enc Tryz.prog w base (fun _ => true) true 93 v d p) :
    ∃ (cs : List Value) (x : Fu), v = .agg cs.toArray ∧ D.Ats w anyB x.ds cs := by
  obtain ⟨cs, rfl, _⟩ := okWide_struct Tryz.underlying93 hv
  obtain ⟨n, hn⟩ := h
  obtain ⟨x, hx⟩ := Func_of_trod n _ _ hn
  exact ⟨cs.toList, x, by simp, by simpa [Value.cells] using hx⟩
end Go.Proofs.YtklhkdihokgpeaaGreatDoor
namespace Go.Proofs.YtklhkdihokgpeaaGreatDoor
open Go.RowKit Go.ChangeShapes Go.WideShapes

theorem cells_lFace : Tryz.prog.cellsOf 25 = 5 := by kernel_rfl
theorem cells_lFaceS : Tryz.prog.cellsOf 34 = 1 := by kernel_rfl
set_option maxRecDepth 20000 in
theorem Face_of_trod {H : Type} {enc : TypeId × Value → H} {w : World} {base : Nat} {spare : Nat → Bool} {held : Bool} (n : Nat) : ∀ (cs : List Value) (x : DataW H × List MemPlace),
    DataW.trod enc Tryz.prog w base spare held n 25 cs = some x → ∃ y : Fa, D.Ats w anyB y.ds cs := by
  intro cs x h
  obtain ⟨xs, m, hm, _, hlen, hxl, hf⟩ := DataW.trod_struct Tryz.underlying25 h
  rw [cells_lFace] at hlen
  match cs, hlen, xs, hxl, hf with
  | [c0, c1, c2, c3, c4], _, [y0, y1, y2, y3, y4], _, hf =>
    have h0 : DataW.trod enc Tryz.prog w base spare held m 9 [c0] = some y0 := by
      have h := hf 0 _ rfl
      change DataW.trod enc Tryz.prog w base spare held m 9 (([c0, c1, c2, c3, c4].drop 0).take (Tryz.prog.cellsOf 9)) = some y0 at h
      rw [cells_string] at h
      exact h
    have h1 : DataW.trod enc Tryz.prog w base spare held m 9 [c1] = some y1 := by
      have h := hf 1 _ rfl
      change DataW.trod enc Tryz.prog w base spare held m 9 (([c0, c1, c2, c3, c4].drop 1).take (Tryz.prog.cellsOf 9)) = some y1 at h
      rw [cells_string] at h
      exact h
    have h2 : DataW.trod enc Tryz.prog w base spare held m 9 [c2] = some y2 := by
      have h := hf 2 _ rfl
      change DataW.trod enc Tryz.prog w base spare held m 9 (([c0, c1, c2, c3, c4].drop 2).take (Tryz.prog.cellsOf 9)) = some y2 at h
      rw [cells_string] at h
      exact h
    have h3 : DataW.trod enc Tryz.prog w base spare held m 22 [c3] = some y3 := by
      have h := hf 3 _ rfl
      change DataW.trod enc Tryz.prog w base spare held m 22 (([c0, c1, c2, c3, c4].drop 3).take (Tryz.prog.cellsOf 22)) = some y3 at h
      rw [cells_strings] at h
      exact h
    have h4 : DataW.trod enc Tryz.prog w base spare held m 23 [c4] = some y4 := by
      have h := hf 4 _ rfl
      change DataW.trod enc Tryz.prog w base spare held m 23 (([c0, c1, c2, c3, c4].drop 4).take (Tryz.prog.cellsOf 23)) = some y4 at h
      rw [cells_lFuncS] at h
      exact h
    obtain ⟨a0, e0, _, w0⟩ := DataW.trod_string Tryz.underlying9 h0
    obtain ⟨a1, e1, _, w1⟩ := DataW.trod_string Tryz.underlying9 h1
    obtain ⟨a2, e2, _, w2⟩ := DataW.trod_string Tryz.underlying9 h2
    obtain ⟨v3, a3, e3, w3⟩ := slice_of_trod (f := strD) (size := 1) Tryz.underlying22 cells_string (by omega) strD_length h3 (fun k' cs' y _ hy => str_of_trod k' cs' y hy)
    obtain ⟨v4, a4, e4, w4⟩ := slice_of_trod (f := Fu.ds) (size := 7) Tryz.underlying23 cells_lFunc (by omega) Fu.len h4 (fun k' cs' y _ hy => Func_of_trod k' cs' y hy)
    simp only [List.cons.injEq, and_true] at e0 e1 e2 e3 e4
    subst e0 e1 e2 e3 e4
    exact ⟨⟨a0, a1, a2, a3, a4⟩, Fa.mk_ (x := ⟨a0, a1, a2, a3, a4⟩) w0 w1 w2 w3 w4⟩
set_option maxRecDepth 20000 in
/-- An argument of the law. -/
theorem Face_arg {H : Type} {enc : TypeId × Value → H} {w : World} {base b0 : Nat} {v : Value} {d : DataW H} {p : List MemPlace} (hv : Value.okWide Tryz.prog w .any b0 25 v) (h : DataW.Trod enc Tryz.prog w base (fun _ => true) true 25 v d p) :
    ∃ (cs : List Value) (x : Fa), v = .agg cs.toArray ∧ D.Ats w anyB x.ds cs := by
  obtain ⟨cs, rfl, _⟩ := okWide_struct Tryz.underlying25 hv
  obtain ⟨n, hn⟩ := h
  obtain ⟨x, hx⟩ := Face_of_trod n _ _ hn
  exact ⟨cs.toList, x, by simp, by simpa [Value.cells] using hx⟩
end Go.Proofs.YtklhkdihokgpeaaGreatDoor
namespace Go.Proofs.YtklhkdihokgpeaaGreatDoor
open Go.RowKit Go.ChangeShapes Go.WideShapes

theorem cells_lWorld : Tryz.prog.cellsOf 36 = 5 := by kernel_rfl
set_option maxRecDepth 20000 in
theorem World_of_trod {H : Type} {enc : TypeId × Value → H} {w : World} {base : Nat} {spare : Nat → Bool} {held : Bool} (n : Nat) : ∀ (cs : List Value) (x : DataW H × List MemPlace),
    DataW.trod enc Tryz.prog w base spare held n 36 cs = some x → ∃ y : Wo, D.Ats w anyB y.ds cs := by
  intro cs x h
  obtain ⟨xs, m, hm, _, hlen, hxl, hf⟩ := DataW.trod_struct Tryz.underlying36 h
  rw [cells_lWorld] at hlen
  match cs, hlen, xs, hxl, hf with
  | [c0, c1, c2, c3, c4], _, [y0, y1, y2, y3, y4], _, hf =>
    have h0 : DataW.trod enc Tryz.prog w base spare held m 9 [c0] = some y0 := by
      have h := hf 0 _ rfl
      change DataW.trod enc Tryz.prog w base spare held m 9 (([c0, c1, c2, c3, c4].drop 0).take (Tryz.prog.cellsOf 9)) = some y0 at h
      rw [cells_string] at h
      exact h
    have h1 : DataW.trod enc Tryz.prog w base spare held m 9 [c1] = some y1 := by
      have h := hf 1 _ rfl
      change DataW.trod enc Tryz.prog w base spare held m 9 (([c0, c1, c2, c3, c4].drop 1).take (Tryz.prog.cellsOf 9)) = some y1 at h
      rw [cells_string] at h
      exact h
    have h2 : DataW.trod enc Tryz.prog w base spare held m 9 [c2] = some y2 := by
      have h := hf 2 _ rfl
      change DataW.trod enc Tryz.prog w base spare held m 9 (([c0, c1, c2, c3, c4].drop 2).take (Tryz.prog.cellsOf 9)) = some y2 at h
      rw [cells_string] at h
      exact h
    have h3 : DataW.trod enc Tryz.prog w base spare held m 34 [c3] = some y3 := by
      have h := hf 3 _ rfl
      change DataW.trod enc Tryz.prog w base spare held m 34 (([c0, c1, c2, c3, c4].drop 3).take (Tryz.prog.cellsOf 34)) = some y3 at h
      rw [cells_lFaceS] at h
      exact h
    have h4 : DataW.trod enc Tryz.prog w base spare held m 34 [c4] = some y4 := by
      have h := hf 4 _ rfl
      change DataW.trod enc Tryz.prog w base spare held m 34 (([c0, c1, c2, c3, c4].drop 4).take (Tryz.prog.cellsOf 34)) = some y4 at h
      rw [cells_lFaceS] at h
      exact h
    obtain ⟨a0, e0, _, w0⟩ := DataW.trod_string Tryz.underlying9 h0
    obtain ⟨a1, e1, _, w1⟩ := DataW.trod_string Tryz.underlying9 h1
    obtain ⟨a2, e2, _, w2⟩ := DataW.trod_string Tryz.underlying9 h2
    obtain ⟨v3, a3, e3, w3⟩ := slice_of_trod (f := Fa.ds) (size := 5) Tryz.underlying34 cells_lFace (by omega) Fa.len h3 (fun k' cs' y _ hy => Face_of_trod k' cs' y hy)
    obtain ⟨v4, a4, e4, w4⟩ := slice_of_trod (f := Fa.ds) (size := 5) Tryz.underlying34 cells_lFace (by omega) Fa.len h4 (fun k' cs' y _ hy => Face_of_trod k' cs' y hy)
    simp only [List.cons.injEq, and_true] at e0 e1 e2 e3 e4
    subst e0 e1 e2 e3 e4
    exact ⟨⟨a0, a1, a2, a3, a4⟩, Wo.mk_ (x := ⟨a0, a1, a2, a3, a4⟩) w0 w1 w2 w3 w4⟩
set_option maxRecDepth 20000 in
/-- An argument of the law. -/
theorem World_arg {H : Type} {enc : TypeId × Value → H} {w : World} {base b0 : Nat} {v : Value} {d : DataW H} {p : List MemPlace} (hv : Value.okWide Tryz.prog w .any b0 36 v) (h : DataW.Trod enc Tryz.prog w base (fun _ => true) true 36 v d p) :
    ∃ (cs : List Value) (x : Wo), v = .agg cs.toArray ∧ D.Ats w anyB x.ds cs := by
  obtain ⟨cs, rfl, _⟩ := okWide_struct Tryz.underlying36 hv
  obtain ⟨n, hn⟩ := h
  obtain ⟨x, hx⟩ := World_of_trod n _ _ hn
  exact ⟨cs.toList, x, by simp, by simpa [Value.cells] using hx⟩
end Go.Proofs.YtklhkdihokgpeaaGreatDoor
