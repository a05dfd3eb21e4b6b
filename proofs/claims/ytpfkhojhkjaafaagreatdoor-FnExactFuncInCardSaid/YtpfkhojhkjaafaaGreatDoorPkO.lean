/- Openings: numbers, texts. Type: an argument of the law opened. Param: an argument of the law opened. FuncType: an argument of the law opened. Func: an argument of the law opened. Face: an argument of the law opened. -/
import Derived.Test.YtpfkhojhkjaafaaGreatDoorCore
import Derived.Test.YtpfkhojhkjaafaaGreatDoorTree
import Derived.Test.YtpfkhojhkjaafaaGreatDoorOpen
import Derived.Test.YtpfkhojhkjaafaaGreatDoorTyM
namespace Go.Proofs.YtpfkhojhkjaafaaGreatDoor
open Go.RowKit Go.ChangeShapes Go.WideShapes
theorem cells_int64 : Tryz.prog.cellsOf 2 = 1 := by kernel_rfl
theorem cells_string : Tryz.prog.cellsOf 9 = 1 := by kernel_rfl
theorem cells_bool : Tryz.prog.cellsOf 4 = 1 := by kernel_rfl
theorem cells_strings : Tryz.prog.cellsOf 22 = 1 := by kernel_rfl
theorem str_of_trod {H : Type} {enc : TypeId × Value → H} {w : World} {base : Nat} {spare : Nat → Bool} {held : Bool} (n : Nat) (cs : List Value) (x : DataW H × List MemPlace)
    (h : DataW.trod enc Tryz.prog w base spare held n 9 cs = some x) : ∃ y : ByteArray, D.Ats w anyB (strD y) cs := by
  obtain ⟨s, rfl, _, ws⟩ := DataW.trod_string Tryz.underlying9 h
  exact ⟨s, str_mk ws⟩
end Go.Proofs.YtpfkhojhkjaafaaGreatDoor
namespace Go.Proofs.YtpfkhojhkjaafaaGreatDoor
open Go.RowKit Go.ChangeShapes Go.WideShapes

theorem cells_lType : Tryz.prog.cellsOf 49 = 4 := by kernel_rfl
theorem cells_lTypeS : Tryz.prog.cellsOf 47 = 1 := by kernel_rfl
set_option maxRecDepth 20000 in
theorem Type_of_trod {H : Type} {enc : TypeId × Value → H} {w : World} {base : Nat} {spare : Nat → Bool} {held : Bool} (n : Nat) : ∀ (cs : List Value) (x : DataW H × List MemPlace),
    DataW.trod enc Tryz.prog w base spare held n 49 cs = some x → ∃ y : Ty, D.Ats w anyB y.ds cs := by
  induction n using Nat.strongRecOn with
  | _ n ih =>
    intro cs x h
    obtain ⟨xs, m, hm, _, hlen, hxl, hf⟩ := DataW.trod_struct Tryz.underlying49 h
    rw [cells_lType] at hlen
    match cs, hlen, xs, hxl, hf with
    | [c0, c1, c2, c3], _, [y0, y1, y2, y3], _, hf =>
      have h0 : DataW.trod enc Tryz.prog w base spare held m 2 [c0] = some y0 := by
        have h := hf 0 _ rfl
        change DataW.trod enc Tryz.prog w base spare held m 2 (([c0, c1, c2, c3].drop 0).take (Tryz.prog.cellsOf 2)) = some y0 at h
        rw [cells_int64] at h
        exact h
      have h1 : DataW.trod enc Tryz.prog w base spare held m 9 [c1] = some y1 := by
        have h := hf 1 _ rfl
        change DataW.trod enc Tryz.prog w base spare held m 9 (([c0, c1, c2, c3].drop 1).take (Tryz.prog.cellsOf 9)) = some y1 at h
        rw [cells_string] at h
        exact h
      have h2 : DataW.trod enc Tryz.prog w base spare held m 22 [c2] = some y2 := by
        have h := hf 2 _ rfl
        change DataW.trod enc Tryz.prog w base spare held m 22 (([c0, c1, c2, c3].drop 2).take (Tryz.prog.cellsOf 22)) = some y2 at h
        rw [cells_strings] at h
        exact h
      have h3 : DataW.trod enc Tryz.prog w base spare held m 47 [c3] = some y3 := by
        have h := hf 3 _ rfl
        change DataW.trod enc Tryz.prog w base spare held m 47 (([c0, c1, c2, c3].drop 3).take (Tryz.prog.cellsOf 47)) = some y3 at h
        rw [cells_lTypeS] at h
        exact h
      obtain ⟨a0, e0, _, w0⟩ := DataW.trod_int Tryz.underlying2 h0
      obtain ⟨a1, e1, _, w1⟩ := DataW.trod_string Tryz.underlying9 h1
      obtain ⟨v2, a2, e2, w2⟩ := slice_of_trod (f := strD) (size := 1) Tryz.underlying22 cells_string (by omega) strD_length h2 (fun k' cs' y _ hy => str_of_trod k' cs' y hy)
      obtain ⟨v3, a3, e3, w3⟩ := slice_of_trod (f := Ty.ds) (size := 4) Tryz.underlying47 cells_lType (by omega) Ty.len h3 (fun k' cs' y hk' hy => ih k' (by omega) cs' y hy)
      simp only [List.cons.injEq, and_true] at e0 e1 e2 e3
      subst e0 e1 e2 e3
      exact ⟨Ty.mk a0 a1 a2 a3, Ty.mk_ (bounds_i64 w0) w1 w2 w3⟩
set_option maxRecDepth 20000 in
/-- An argument of the law. -/
theorem Type_arg {H : Type} {enc : TypeId × Value → H} {w : World} {base b0 : Nat} {v : Value} {d : DataW H} {p : List MemPlace} (hv : Value.okWide Tryz.prog w .any b0 49 v) (h : DataW.Trod enc Tryz.prog w base (fun _ => true) true 49 v d p) :
    ∃ (cs : List Value) (x : Ty), v = .agg cs.toArray ∧ D.Ats w anyB x.ds cs := by
  obtain ⟨cs, rfl, _⟩ := okWide_struct Tryz.underlying49 hv
  obtain ⟨n, hn⟩ := h
  obtain ⟨x, hx⟩ := Type_of_trod n _ _ hn
  exact ⟨cs.toList, x, by simp, by simpa [Value.cells] using hx⟩
end Go.Proofs.YtpfkhojhkjaafaaGreatDoor
namespace Go.Proofs.YtpfkhojhkjaafaaGreatDoor
open Go.RowKit Go.ChangeShapes Go.WideShapes

theorem cells_lParam : Tryz.prog.cellsOf 204 = 5 := by kernel_rfl
theorem cells_lParamS : Tryz.prog.cellsOf 103 = 1 := by kernel_rfl
set_option maxRecDepth 20000 in
theorem Param_of_trod {H : Type} {enc : TypeId × Value → H} {w : World} {base : Nat} {spare : Nat → Bool} {held : Bool} (n : Nat) : ∀ (cs : List Value) (x : DataW H × List MemPlace),
    DataW.trod enc Tryz.prog w base spare held n 204 cs = some x → ∃ y : Pa, D.Ats w anyB y.ds cs := by
  intro cs x h
  obtain ⟨xs, m, hm, _, hlen, hxl, hf⟩ := DataW.trod_struct Tryz.underlying204 h
  rw [cells_lParam] at hlen
  match cs, hlen, xs, hxl, hf with
  | [c0, c1, c2, c3, c4], _, [y0, y1], _, hf =>
    have h0 : DataW.trod enc Tryz.prog w base spare held m 9 [c0] = some y0 := by
      have h := hf 0 _ rfl
      change DataW.trod enc Tryz.prog w base spare held m 9 (([c0, c1, c2, c3, c4].drop 0).take (Tryz.prog.cellsOf 9)) = some y0 at h
      rw [cells_string] at h
      exact h
    have h1 : DataW.trod enc Tryz.prog w base spare held m 49 [c1, c2, c3, c4] = some y1 := by
      have h := hf 1 _ rfl
      change DataW.trod enc Tryz.prog w base spare held m 49 (([c0, c1, c2, c3, c4].drop 1).take (Tryz.prog.cellsOf 49)) = some y1 at h
      rw [cells_lType] at h
      exact h
    obtain ⟨a0, e0, _, w0⟩ := DataW.trod_string Tryz.underlying9 h0
    obtain ⟨a1, w1⟩ := Type_of_trod _ _ _ h1
    simp only [List.cons.injEq, and_true] at e0
    subst e0
    exact ⟨⟨a0, a1⟩, Pa.mk_ (x := ⟨a0, a1⟩) w0 w1⟩
set_option maxRecDepth 20000 in
/-- An argument of the law. -/
theorem Param_arg {H : Type} {enc : TypeId × Value → H} {w : World} {base b0 : Nat} {v : Value} {d : DataW H} {p : List MemPlace} (hv : Value.okWide Tryz.prog w .any b0 204 v) (h : DataW.Trod enc Tryz.prog w base (fun _ => true) true 204 v d p) :
    ∃ (cs : List Value) (x : Pa), v = .agg cs.toArray ∧ D.Ats w anyB x.ds cs := by
  obtain ⟨cs, rfl, _⟩ := okWide_struct Tryz.underlying204 hv
  obtain ⟨n, hn⟩ := h
  obtain ⟨x, hx⟩ := Param_of_trod n _ _ hn
  exact ⟨cs.toList, x, by simp, by simpa [Value.cells] using hx⟩
end Go.Proofs.YtpfkhojhkjaafaaGreatDoor
namespace Go.Proofs.YtpfkhojhkjaafaaGreatDoor
open Go.RowKit Go.ChangeShapes Go.WideShapes

theorem cells_lFuncType : Tryz.prog.cellsOf 105 = 6 := by kernel_rfl
set_option maxRecDepth 20000 in
theorem FuncType_of_trod {H : Type} {enc : TypeId × Value → H} {w : World} {base : Nat} {spare : Nat → Bool} {held : Bool} (n : Nat) : ∀ (cs : List Value) (x : DataW H × List MemPlace),
    DataW.trod enc Tryz.prog w base spare held n 105 cs = some x → ∃ y : Fn, D.Ats w anyB y.ds cs := by
  intro cs x h
  obtain ⟨xs, m, hm, _, hlen, hxl, hf⟩ := DataW.trod_struct Tryz.underlying105 h
  rw [cells_lFuncType] at hlen
  match cs, hlen, xs, hxl, hf with
  | [c0, c1, c2, c3, c4, c5], _, [y0, y1, y2], _, hf =>
    have h0 : DataW.trod enc Tryz.prog w base spare held m 103 [c0] = some y0 := by
      have h := hf 0 _ rfl
      change DataW.trod enc Tryz.prog w base spare held m 103 (([c0, c1, c2, c3, c4, c5].drop 0).take (Tryz.prog.cellsOf 103)) = some y0 at h
      rw [cells_lParamS] at h
      exact h
    have h1 : DataW.trod enc Tryz.prog w base spare held m 49 [c1, c2, c3, c4] = some y1 := by
      have h := hf 1 _ rfl
      change DataW.trod enc Tryz.prog w base spare held m 49 (([c0, c1, c2, c3, c4, c5].drop 1).take (Tryz.prog.cellsOf 49)) = some y1 at h
      rw [cells_lType] at h
      exact h
    have h2 : DataW.trod enc Tryz.prog w base spare held m 4 [c5] = some y2 := by
      have h := hf 2 _ rfl
      change DataW.trod enc Tryz.prog w base spare held m 4 (([c0, c1, c2, c3, c4, c5].drop 5).take (Tryz.prog.cellsOf 4)) = some y2 at h
      rw [cells_bool] at h
      exact h
    obtain ⟨v0, a0, e0, w0⟩ := slice_of_trod (f := Pa.ds) (size := 5) Tryz.underlying103 cells_lParam (by omega) Pa.len h0 (fun k' cs' y _ hy => Param_of_trod k' cs' y hy)
    obtain ⟨a1, w1⟩ := Type_of_trod _ _ _ h1
    obtain ⟨a2, e2, _⟩ := DataW.trod_bool Tryz.underlying4 h2
    simp only [List.cons.injEq, and_true] at e0 e2
    subst e0 e2
    exact ⟨⟨a0, a1, a2⟩, Fn.mk_ (x := ⟨a0, a1, a2⟩) w0 w1⟩
set_option maxRecDepth 20000 in
/-- An argument of the law. -/
theorem FuncType_arg {H : Type} {enc : TypeId × Value → H} {w : World} {base b0 : Nat} {v : Value} {d : DataW H} {p : List MemPlace} (hv : Value.okWide Tryz.prog w .any b0 105 v) (h : DataW.Trod enc Tryz.prog w base (fun _ => true) true 105 v d p) :
    ∃ (cs : List Value) (x : Fn), v = .agg cs.toArray ∧ D.Ats w anyB x.ds cs := by
  obtain ⟨cs, rfl, _⟩ := okWide_struct Tryz.underlying105 hv
  obtain ⟨n, hn⟩ := h
  obtain ⟨x, hx⟩ := FuncType_of_trod n _ _ hn
  exact ⟨cs.toList, x, by simp, by simpa [Value.cells] using hx⟩
end Go.Proofs.YtpfkhojhkjaafaaGreatDoor
namespace Go.Proofs.YtpfkhojhkjaafaaGreatDoor
open Go.RowKit Go.ChangeShapes Go.WideShapes

theorem cells_lFunc : Tryz.prog.cellsOf 107 = 7 := by kernel_rfl
theorem cells_lFuncS : Tryz.prog.cellsOf 23 = 1 := by kernel_rfl
set_option maxRecDepth 20000 in
theorem Func_of_trod {H : Type} {enc : TypeId × Value → H} {w : World} {base : Nat} {spare : Nat → Bool} {held : Bool} (n : Nat) : ∀ (cs : List Value) (x : DataW H × List MemPlace),
    DataW.trod enc Tryz.prog w base spare held n 107 cs = some x → ∃ y : Fu, D.Ats w anyB y.ds cs := by
  intro cs x h
  obtain ⟨xs, m, hm, _, hlen, hxl, hf⟩ := DataW.trod_struct Tryz.underlying107 h
  rw [cells_lFunc] at hlen
  match cs, hlen, xs, hxl, hf with
  | [c0, c1, c2, c3, c4, c5, c6], _, [y0, y1], _, hf =>
    have h0 : DataW.trod enc Tryz.prog w base spare held m 9 [c0] = some y0 := by
      have h := hf 0 _ rfl
      change DataW.trod enc Tryz.prog w base spare held m 9 (([c0, c1, c2, c3, c4, c5, c6].drop 0).take (Tryz.prog.cellsOf 9)) = some y0 at h
      rw [cells_string] at h
      exact h
    have h1 : DataW.trod enc Tryz.prog w base spare held m 105 [c1, c2, c3, c4, c5, c6] = some y1 := by
      have h := hf 1 _ rfl
      change DataW.trod enc Tryz.prog w base spare held m 105 (([c0, c1, c2, c3, c4, c5, c6].drop 1).take (Tryz.prog.cellsOf 105)) = some y1 at h
      rw [cells_lFuncType] at h
      exact h
    obtain ⟨a0, e0, _, w0⟩ := DataW.trod_string Tryz.underlying9 h0
    obtain ⟨a1, w1⟩ := FuncType_of_trod _ _ _ h1
    simp only [List.cons.injEq, and_true] at e0
    subst e0
    exact ⟨⟨a0, a1⟩, Fu.mk_ (x := ⟨a0, a1⟩) w0 w1⟩
set_option maxRecDepth 20000 in
/-- An argument of the law. -/
theorem Func_arg {H : Type} {enc : TypeId × Value → H} {w : World} {base b0 : Nat} {v : Value} {d : DataW H} {p : List MemPlace} (hv : Value.okWide Tryz.prog w .any b0 107 v) (h : DataW.Trod enc Tryz.prog w base (fun _ => true) true 107 v d p) :
    ∃ (cs : List Value) (x : Fu), v = .agg cs.toArray ∧ D.Ats w anyB x.ds cs := by
  obtain ⟨cs, rfl, _⟩ := okWide_struct Tryz.underlying107 hv
  obtain ⟨n, hn⟩ := h
  obtain ⟨x, hx⟩ := Func_of_trod n _ _ hn
  exact ⟨cs.toList, x, by simp, by simpa [Value.cells] using hx⟩
end Go.Proofs.YtpfkhojhkjaafaaGreatDoor
namespace Go.Proofs.YtpfkhojhkjaafaaGreatDoor
open Go.RowKit Go.ChangeShapes Go.WideShapes

theorem cells_lFace : Tryz.prog.cellsOf 25 = 5 := by kernel_rfl
set_option maxRecDepth 20000 in
theorem Face_of_trod {H : Type} {enc : TypeId × Value → H} {w : World} {base : Nat} {spare : Nat → Bool} {held : Bool} (n : Nat) : ∀ (cs : List Value) (x : DataW H × List MemPlace),
    DataW.trod enc Tryz.prog w base spare held n 25 cs = some x → ∃ y : Fa, D.Ats w anyB y.ds cs := by
  intro cs x h
  obtain ⟨xs, m, hm, _, hlen, hxl, hf⟩ := DataW.trod_struct Tryz.underlying25 h
  rw [cells_lFace] at hlen
  match cs, hlen, xs, hxl, hf with
  | [c0, c1, c2, c3, c4], _, [y0, y1, y2, y3, y4], _, hf =>
    have h0 : DataW.trod enc Tryz.prog w base spare held m 9 [c0] = some y0 := by
      have h := hf 0 _ rfl
      change DataW.trod enc Tryz.prog w base spare held m 9 (([c0, c1, c2, c3, c4].drop 0).take (Tryz.prog.cellsOf 9)) = some y0 at h
      rw [cells_string] at h
      exact h
    have h1 : DataW.trod enc Tryz.prog w base spare held m 9 [c1] = some y1 := by
      have h := hf 1 _ rfl
      change DataW.trod enc Tryz.prog w base spare held m 9 (([c0, c1, c2, c3, c4].drop 1).take (Tryz.prog.cellsOf 9)) = some y1 at h
      rw [cells_string] at h
      exact h
    have h2 : DataW.trod enc Tryz.prog w base spare held m 9 [c2] = some y2 := by
      have h := hf 2 _ rfl
      change DataW.trod enc Tryz.prog w base spare held m 9 (([c0, c1, c2, c3, c4].drop 2).take (Tryz.prog.cellsOf 9)) = some y2 at h
      rw [cells_string] at h
      exact h
    have h3 : DataW.trod enc Tryz.prog w base spare held m 22 [c3] = some y3 := by
      have h := hf 3 _ rfl
      change DataW.trod enc Tryz.prog w base spare held m 22 (([c0, c1, c2, c3, c4].drop 3).take (Tryz.prog.cellsOf 22)) = some y3 at h
      rw [cells_strings] at h
      exact h
    have h4 : DataW.trod enc Tryz.prog w base spare held m 23 [c4] = some y4 := by
      have h := hf 4 _ rfl
      change DataW.trod enc Tryz.prog w base spare held m 23 (([c0, c1, c2, c3, c4].drop 4).take (Tryz.prog.cellsOf 23)) = some y4 at h
      rw [cells_lFuncS] at h
      exact h
    obtain ⟨a0, e0, _, w0⟩ := DataW.trod_string Tryz.underlying9 h0
    obtain ⟨a1, e1, _, w1⟩ := DataW.trod_string Tryz.underlying9 h1
    obtain ⟨a2, e2, _, w2⟩ := DataW.trod_string Tryz.underlying9 h2
    obtain ⟨v3, a3, e3, w3⟩ := slice_of_trod (f := strD) (size := 1) Tryz.underlying22 cells_string (by omega) strD_length h3 (fun k' cs' y _ hy => str_of_trod k' cs' y hy)
    obtain ⟨v4, a4, e4, w4⟩ := slice_of_trod (f := Fu.ds) (size := 7) Tryz.underlying23 cells_lFunc (by omega) Fu.len h4 (fun k' cs' y _ hy => Func_of_trod k' cs' y hy)
    simp only [List.cons.injEq, and_true] at e0 e1 e2 e3 e4
    subst e0 e1 e2 e3 e4
    exact ⟨⟨a0, a1, a2, a3, a4⟩, Fa.mk_ (x := ⟨a0, a1, a2, a3, a4⟩) w0 w1 w2 w3 w4⟩
set_option maxRecDepth 20000 in
/-- An argument of the law. -/
theorem Face_arg {H : Type} {enc : TypeId × Value → H} {w : World} {base b0 : Nat} {v : Value} {d : DataW H} {p : List MemPlace} (hv : Value.okWide Tryz.prog w .any b0 25 v) (h : DataW.Trod enc Tryz.prog w base (fun _ => true) true 25 v d p) :
    ∃ (cs : List Value) (x : Fa), v = .agg cs.toArray ∧ D.Ats w anyB x.ds cs := by
  obtain ⟨cs, rfl, _⟩ := okWide_struct Tryz.underlying25 hv
  obtain ⟨n, hn⟩ := h
  obtain ⟨x, hx⟩ := Face_of_trod n _ _ hn
  exact ⟨cs.toList, x, by simp, by simpa [Value.cells] using hx⟩
end Go.Proofs.YtpfkhojhkjaafaaGreatDoor
