/- Values: an argument of the law opened. -/
import Derived.Test.YthneepkkjofhaaaValSameI
import Derived.Test.YthneepkkjofhaaaOpen
namespace Go.Proofs.Ythneepkkjofhaaa
open Go.RowKit Go.ChangeShapes Go.WideShapes

theorem toValue_c (x : Val) (cs : List Value) (w : World) (h : D.Ats w anyB x.ds cs) (ht : x.total ≤ 1048576) : Calls Try.prog 21 #[.agg cs.toArray] w (RetDs x.ds w) := toValue_w x cs w h ht
theorem eqValue_c (x y : Val) (cs cs' : List Value) (w : World) (h : D.Ats w anyB x.ds cs) (h' : D.Ats w anyB y.ds cs') :
    Calls Try.prog 23 #[.agg cs.toArray, .agg cs'.toArray] w fun e w' => e = .returned (.bool (Val.same x y)) ∧ Below w.heap.size w w' := eqValue_w x y cs cs' w h h'
theorem sameValue_sc (x y : Val) (cs cs' : List Value) (w : World) (h : D.Ats w anyB x.ds cs) (h' : D.Ats w anyB y.ds cs') :
    Calls Try.prog 20 #[.agg cs.toArray, .agg cs'.toArray] w fun e w' => e = .returned (.bool (Val.same x y)) ∧ Below w.heap.size w w' := sameValue_s x y cs cs' w h h'
theorem sameValue_ic (x y : Val) (cs cs' : List Value) (w : World) (h : D.Ats w anyB x.ds cs) (h' : D.Ats w anyB y.ds cs') :
    Calls Try.prog 22 #[.agg cs.toArray, .agg cs'.toArray] w fun e w' => e = .returned (.bool (Val.same x y)) ∧ Below w.heap.size w w' := sameValue_i x y cs cs' w h h'
theorem Val.form {w : World} {S : Nat → Prop} {x : Val} {cs : List Value} (h : D.Ats w S x.ds cs) : ∃ k n t A m cap, cs = [.int .i64 k, .int .i64 n, .string t, .slice A m cap] := by
  obtain ⟨k, n, t, kids⟩ := x
  obtain ⟨v, rfl, -, -, -, hv⟩ := Val.open_ h
  obtain ⟨A, cap, rfl, -, -⟩ := Val.sl_form hv
  exact ⟨k, n, t, A, _, cap, rfl⟩
mutual
theorem Val.same_refl : ∀ x : Val, Val.same x x = true
  | .mk k n t ks => by simp [Val.same, Val.sames_refl ks]
theorem Val.sames_refl : ∀ l : List Val, Val.sames l l = true
  | [] => rfl
  | x :: r => by simp [Val.sames, Val.same_refl x, Val.sames_refl r]
end
theorem cells_lValue : Try.prog.cellsOf 24 = 4 := by kernel_rfl
theorem cells_int64 : Try.prog.cellsOf 2 = 1 := by kernel_rfl
theorem cells_string : Try.prog.cellsOf 9 = 1 := by kernel_rfl
theorem cells_lValues : Try.prog.cellsOf 22 = 1 := by kernel_rfl
set_option maxRecDepth 20000 in
theorem val_of_trod {H : Type} {enc : TypeId × Value → H} {w : World} {base : Nat} {spare : Nat → Bool} {held : Bool} (n : Nat) : ∀ (cs : List Value) (x : DataW H × List MemPlace),
    DataW.trod enc Try.prog w base spare held n 24 cs = some x → ∃ y : Val, D.Ats w anyB y.ds cs := by
  induction n using Nat.strongRecOn with
  | _ n ih =>
    intro cs x h
    obtain ⟨xs, m, hm, _, hlen, hxl, hf⟩ := DataW.trod_struct Try.underlying24 h
    rw [cells_lValue] at hlen
    match cs, hlen, xs, hxl, hf with
    | [c0, c1, c2, c3], _, [y0, y1, y2, y3], _, hf =>
      have h0 : DataW.trod enc Try.prog w base spare held m 2 [c0] = some y0 := by
        have h := hf 0 _ rfl
        change DataW.trod enc Try.prog w base spare held m 2 (([c0, c1, c2, c3].drop 0).take (Try.prog.cellsOf 2)) = some y0 at h
        rw [cells_int64] at h
        exact h
      have h1 : DataW.trod enc Try.prog w base spare held m 2 [c1] = some y1 := by
        have h := hf 1 _ rfl
        change DataW.trod enc Try.prog w base spare held m 2 (([c0, c1, c2, c3].drop 1).take (Try.prog.cellsOf 2)) = some y1 at h
        rw [cells_int64] at h
        exact h
      have h2 : DataW.trod enc Try.prog w base spare held m 9 [c2] = some y2 := by
        have h := hf 2 _ rfl
        change DataW.trod enc Try.prog w base spare held m 9 (([c0, c1, c2, c3].drop 2).take (Try.prog.cellsOf 9)) = some y2 at h
        rw [cells_string] at h
        exact h
      have h3 : DataW.trod enc Try.prog w base spare held m 22 [c3] = some y3 := by
        have h := hf 3 _ rfl
        change DataW.trod enc Try.prog w base spare held m 22 (([c0, c1, c2, c3].drop 3).take (Try.prog.cellsOf 22)) = some y3 at h
        rw [cells_lValues] at h
        exact h
      obtain ⟨k, e0, _, wk⟩ := DataW.trod_int Try.underlying2 h0
      obtain ⟨q, e1, _, wq⟩ := DataW.trod_int Try.underlying2 h1
      obtain ⟨s, e2, _, ws⟩ := DataW.trod_string Try.underlying9 h2
      obtain ⟨v, l, e3, hv⟩ := slice_of_trod (f := Val.ds) (size := 4) Try.underlying22 cells_lValue (by omega) Val.ds_length h3 (fun k' cs' y hk' hy => ih k' (by omega) cs' y hy)
      simp only [List.cons.injEq, and_true] at e0 e1 e2 e3
      subst e0 e1 e2 e3
      refine ⟨.mk k q s l, Val.mk_ (bounds_i64 wk) (bounds_i64 wq) ws ?_⟩
      unfold Val.sl
      rw [Val.dss_eq]
      exact hv
set_option maxRecDepth 20000 in
/-- An argument of the law. -/
theorem val_arg {H : Type} {enc : TypeId × Value → H} {w : World} {base b0 : Nat} {v : Value} {d : DataW H} {p : List MemPlace} (hv : Value.okWide Try.prog w .any b0 24 v) (h : DataW.Trod enc Try.prog w base (fun _ => true) true 24 v d p) :
    ∃ (cs : List Value) (x : Val), v = .agg cs.toArray ∧ D.Ats w anyB x.ds cs := by
  obtain ⟨cs, rfl, _⟩ := okWide_struct Try.underlying24 hv
  obtain ⟨n, hn⟩ := h
  obtain ⟨x, hx⟩ := val_of_trod n _ _ hn
  exact ⟨cs.toList, x, by simp, by simpa [Value.cells] using hx⟩

end Go.Proofs.Ythneepkkjofhaaa
