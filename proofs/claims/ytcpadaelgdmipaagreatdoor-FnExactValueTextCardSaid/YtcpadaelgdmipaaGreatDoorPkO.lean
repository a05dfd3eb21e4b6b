/- Openings: numbers, texts. Value: an argument of the law opened. Type: an argument of the law opened. -/
import Derived.Test.YtcpadaelgdmipaaGreatDoorCore
import Derived.Test.YtcpadaelgdmipaaGreatDoorTree
import Derived.Test.YtcpadaelgdmipaaGreatDoorOpen
import Derived.Test.YtcpadaelgdmipaaGreatDoorVaM
import Derived.Test.YtcpadaelgdmipaaGreatDoorTyM
namespace Go.Proofs.YtcpadaelgdmipaaGreatDoor
open Go.RowKit Go.ChangeShapes Go.WideShapes
theorem cells_int64 : Tryz.prog.cellsOf 2 = 1 := by kernel_rfl
theorem cells_string : Tryz.prog.cellsOf 9 = 1 := by kernel_rfl
theorem cells_bool : Tryz.prog.cellsOf 4 = 1 := by kernel_rfl
theorem cells_strings : Tryz.prog.cellsOf 25 = 1 := by kernel_rfl
theorem str_of_trod {H : Type} {enc : TypeId × Value → H} {w : World} {base : Nat} {spare : Nat → Bool} {held : Bool} (n : Nat) (cs : List Value) (x : DataW H × List MemPlace)
    (h : DataW.trod enc Tryz.prog w base spare held n 9 cs = some x) : ∃ y : ByteArray, D.Ats w anyB (strD y) cs := by
  obtain ⟨s, rfl, _, ws⟩ := DataW.trod_string Tryz.underlying9 h
  exact ⟨s, str_mk ws⟩
end Go.Proofs.YtcpadaelgdmipaaGreatDoor
namespace Go.Proofs.YtcpadaelgdmipaaGreatDoor
open Go.RowKit Go.ChangeShapes Go.WideShapes

theorem cells_lValue : Tryz.prog.cellsOf 24 = 4 := by kernel_rfl
theorem cells_lValueS : Tryz.prog.cellsOf 22 = 1 := by kernel_rfl
set_option maxRecDepth 20000 in
theorem Value_of_trod {H : Type} {enc : TypeId × Value → H} {w : World} {base : Nat} {spare : Nat → Bool} {held : Bool} (n : Nat) : ∀ (cs : List Value) (x : DataW H × List MemPlace),
    DataW.trod enc Tryz.prog w base spare held n 24 cs = some x → ∃ y : Va, D.Ats w anyB y.ds cs := by
  induction n using Nat.strongRecOn with
  | _ n ih =>
    intro cs x h
    obtain ⟨xs, m, hm, _, hlen, hxl, hf⟩ := DataW.trod_struct Tryz.underlying24 h
    rw [cells_lValue] at hlen
    match cs, hlen, xs, hxl, hf with
    | [c0, c1, c2, c3], _, [y0, y1, y2, y3], _, hf =>
      have h0 : DataW.trod enc Tryz.prog w base spare held m 2 [c0] = some y0 := by
        have h := hf 0 _ rfl
        change DataW.trod enc Tryz.prog w base spare held m 2 (([c0, c1, c2, c3].drop 0).take (Tryz.prog.cellsOf 2)) = some y0 at h
        rw [cells_int64] at h
        exact h
      have h1 : DataW.trod enc Tryz.prog w base spare held m 2 [c1] = some y1 := by
        have h := hf 1 _ rfl
        change DataW.trod enc Tryz.prog w base spare held m 2 (([c0, c1, c2, c3].drop 1).take (Tryz.prog.cellsOf 2)) = some y1 at h
        rw [cells_int64] at h
        exact h
      have h2 : DataW.trod enc Tryz.prog w base spare held m 9 [c2] = some y2 := by
        have h := hf 2 _ rfl
        change DataW.trod enc Tryz.prog w base spare held m 9 (([c0, c1, c2, c3].drop 2).take (Tryz.prog.cellsOf 9)) = some y2 at h
        rw [cells_string] at h
        exact h
      have h3 : DataW.trod enc Tryz.prog w base spare held m 22 [c3] = some y3 := by
        have h := hf 3 _ rfl
        change DataW.trod enc Tryz.prog w base spare held m 22 (([c0, c1, c2, c3].drop 3).take (Tryz.prog.cellsOf 22)) = some y3 at h
        rw [cells_lValueS] at h
        exact h
      obtain ⟨a0, e0, _, w0⟩ := DataW.trod_int Tryz.underlying2 h0
      obtain ⟨a1, e1, _, w1⟩ := DataW.trod_int Tryz.underlying2 h1
      obtain ⟨a2, e2, _, w2⟩ := DataW.trod_string Tryz.underlying9 h2
      obtain ⟨v3, a3, e3, w3⟩ := slice_of_trod (f := Va.ds) (size := 4) Tryz.underlying22 cells_lValue (by omega) Va.len h3 (fun k' cs' y hk' hy => ih k' (by omega) cs' y hy)
      simp only [List.cons.injEq, and_true] at e0 e1 e2 e3
      subst e0 e1 e2 e3
      exact ⟨Va.mk a0 a1 a2 a3, Va.mk_ (bounds_i64 w0) (bounds_i64 w1) w2 w3⟩
set_option maxRecDepth 20000 in
/-- An argument of the law. -/
theorem Value_arg {H : Type} {enc : TypeId × Value → H} {w : World} {base b0 : Nat} {v : Value} {d : DataW H} {p : List MemPlace} (hv : Value.okWide Tryz.prog w .any b0 24 v) (h : DataW.Trod enc Tryz.prog w base (fun _ => true) true 24 v d p) :
    ∃ (cs : List Value) (x : Va), v = .agg cs.toArray ∧ D.Ats w anyB x.ds cs := by
  obtain ⟨cs, rfl, _⟩ := okWide_struct Tryz.underlying24 hv
  obtain ⟨n, hn⟩ := h
  obtain ⟨x, hx⟩ := Value_of_trod n _ _ hn
  exact ⟨cs.toList, x, by simp, by simpa [Value.cells] using hx⟩
end Go.Proofs.YtcpadaelgdmipaaGreatDoor
namespace Go.Proofs.YtcpadaelgdmipaaGreatDoor
open Go.RowKit Go.ChangeShapes Go.WideShapes

theorem cells_lType : Tryz.prog.cellsOf 28 = 4 := by kernel_rfl
theorem cells_lTypeS : Tryz.prog.cellsOf 26 = 1 := by kernel_rfl
set_option maxRecDepth 20000 in
theorem Type_of_trod {H : Type} {enc : TypeId × Value → H} {w : World} {base : Nat} {spare : Nat → Bool} {held : Bool} (n : Nat) : ∀ (cs : List Value) (x : DataW H × List MemPlace),
    DataW.trod enc Tryz.prog w base spare held n 28 cs = some x → ∃ y : Ty, D.Ats w anyB y.ds cs := by
  induction n using Nat.strongRecOn with
  | _ n ih =>
    intro cs x h
    obtain ⟨xs, m, hm, _, hlen, hxl, hf⟩ := DataW.trod_struct Tryz.underlying28 h
    rw [cells_lType] at hlen
    match cs, hlen, xs, hxl, hf with
    | [c0, c1, c2, c3], _, [y0, y1, y2, y3], _, hf =>
      have h0 : DataW.trod enc Tryz.prog w base spare held m 2 [c0] = some y0 := by
        have h := hf 0 _ rfl
        change DataW.trod enc Tryz.prog w base spare held m 2 (([c0, c1, c2, c3].drop 0).take (Tryz.prog.cellsOf 2)) = some y0 at h
        rw [cells_int64] at h
        exact h
      have h1 : DataW.trod enc Tryz.prog w base spare held m 9 [c1] = some y1 := by
        have h := hf 1 _ rfl
        change DataW.trod enc Tryz.prog w base spare held m 9 (([c0, c1, c2, c3].drop 1).take (Tryz.prog.cellsOf 9)) = some y1 at h
        rw [cells_string] at h
        exact h
      have h2 : DataW.trod enc Tryz.prog w base spare held m 25 [c2] = some y2 := by
        have h := hf 2 _ rfl
        change DataW.trod enc Tryz.prog w base spare held m 25 (([c0, c1, c2, c3].drop 2).take (Tryz.prog.cellsOf 25)) = some y2 at h
        rw [cells_strings] at h
        exact h
      have h3 : DataW.trod enc Tryz.prog w base spare held m 26 [c3] = some y3 := by
        have h := hf 3 _ rfl
        change DataW.trod enc Tryz.prog w base spare held m 26 (([c0, c1, c2, c3].drop 3).take (Tryz.prog.cellsOf 26)) = some y3 at h
        rw [cells_lTypeS] at h
        exact h
      obtain ⟨a0, e0, _, w0⟩ := DataW.trod_int Tryz.underlying2 h0
      obtain ⟨a1, e1, _, w1⟩ := DataW.trod_string Tryz.underlying9 h1
      obtain ⟨v2, a2, e2, w2⟩ := slice_of_trod (f := strD) (size := 1) Tryz.underlying25 cells_string (by omega) strD_length h2 (fun k' cs' y _ hy => str_of_trod k' cs' y hy)
      obtain ⟨v3, a3, e3, w3⟩ := slice_of_trod (f := Ty.ds) (size := 4) Tryz.underlying26 cells_lType (by omega) Ty.len h3 (fun k' cs' y hk' hy => ih k' (by omega) cs' y hy)
      simp only [List.cons.injEq, and_true] at e0 e1 e2 e3
      subst e0 e1 e2 e3
      exact ⟨Ty.mk a0 a1 a2 a3, Ty.mk_ (bounds_i64 w0) w1 w2 w3⟩
set_option maxRecDepth 20000 in
/-- An argument of the law. -/
theorem Type_arg {H : Type} {enc : TypeId × Value → H} {w : World} {base b0 : Nat} {v : Value} {d : DataW H} {p : List MemPlace} (hv : Value.okWide Tryz.prog w .any b0 28 v) (h : DataW.Trod enc Tryz.prog w base (fun _ => true) true 28 v d p) :
    ∃ (cs : List Value) (x : Ty), v = .agg cs.toArray ∧ D.Ats w anyB x.ds cs := by
  obtain ⟨cs, rfl, _⟩ := okWide_struct Tryz.underlying28 hv
  obtain ⟨n, hn⟩ := h
  obtain ⟨x, hx⟩ := Type_of_trod n _ _ hn
  exact ⟨cs.toList, x, by simp, by simpa [Value.cells] using hx⟩
end Go.Proofs.YtcpadaelgdmipaaGreatDoor
