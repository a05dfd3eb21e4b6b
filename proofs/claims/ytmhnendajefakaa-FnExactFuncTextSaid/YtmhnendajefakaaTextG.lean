/- FuncText: by the reference and by the program. -/
import Derived.Test.YtmhnendajefakaaTextF
namespace Go.Proofs.Ytmhnendajefakaa
open Go.RowKit Go.Shelf

/-- The text form of a valid function's type, or none. -/
def fnTextOr (x : Fn) : ByteArray := if fnOk x = true then fnT x else ⟨#[]⟩
set_option maxHeartbeats 1000000 in
set_option maxRecDepth 20000 in
theorem askFText_s (x : Fn) (r : ByteArray) (cs : List Value) (w : World) (hr : fnTextOr x = r) (hcs : D.Ats w anyB x.ds cs) (ht : D.totals x.ds ≤ 1048576) :
    Calls Try.prog 31 #[.agg cs.toArray] w fun e w' => e = .returned (.string r) ∧ Below w.heap.size w w' := by
  have HX := Lib.hid hcs
  obtain ⟨B, e0, d, k, n, A, m, c0, A', m', c1, ab, rfl⟩ := Fn.form hcs
  clear hcs
  have HR := Lib.hid hr
  clear hr
  go_enter Try.func31, Try.ntmps31
  go_wp2_with fail
  refine (l03Func_s x _ _ (HX.out.below ((Below.refl _ _).alloc (Nat.le_refl _) _))).mono ?_
  rintro e w1 ⟨rfl, hb1⟩
  obtain ⟨B1, bA⟩ := box1 (cA := [_, _, _, _, _, _]) hb1
  clear hb1
  have c := bA.cell
  cases h1 : fnOk x
  · have E1 := Lib.hid (show r = ⟨#[]⟩ by rw [← HR.out, fnTextOr, if_neg (by rw [h1]; decide)])
    clear c h1
    go_wp2
    go_ret
    exact ⟨ret_eq (by rw [E1.out]; try rfl), B1⟩
  · have E1 := Lib.hid (show r = fnT x by rw [← HR.out, fnTextOr, if_pos h1])
    have E2 := Lib.hid (fun cs w h => l03FuncText_s x cs w h h1 ht)
    clear h1
    go_wp2_with fail
    refine (E2.out _ _ (HX.out.below B1)).mono ?_
    rintro e w2 ⟨rfl, hb2⟩
    have B2 := B1.trans (hb2.mono B1.size)
    clear c hb2
    go_wp2
    go_ret
    exact ⟨ret_eq (by rw [E1.out]; try rfl), B2⟩
set_option maxHeartbeats 1000000 in
set_option maxRecDepth 20000 in
theorem askFText_i (x : Fn) (r : ByteArray) (cs : List Value) (w : World) (hr : fnTextOr x = r) (hcs : D.Ats w anyB x.ds cs) (ht : D.totals x.ds ≤ 1048576) :
    Calls Try.prog 33 #[.agg cs.toArray] w fun e w' => e = .returned (.string r) ∧ Below w.heap.size w w' := by
  have HX := Lib.hid hcs
  obtain ⟨B, e0, d, k, n, A, m, c0, A', m', c1, ab, rfl⟩ := Fn.form hcs
  clear hcs
  have HR := Lib.hid hr
  clear hr
  go_enter Try.func33, Try.ntmps33
  go_wp2_with fail
  refine (funcOk_i x _ _ (HX.out.below ((Below.refl _ _).alloc (Nat.le_refl _) _)) ht).mono ?_
  rintro e w1 ⟨rfl, hb1⟩
  obtain ⟨B1, bA⟩ := box1 (cA := [_, _, _, _, _, _]) hb1
  clear hb1
  have c := bA.cell
  cases h1 : fnOk x
  · have E1 := Lib.hid (show r = ⟨#[]⟩ by rw [← HR.out, fnTextOr, if_neg (by rw [h1]; decide)])
    clear c h1
    go_wp2
    go_ret
    exact ⟨ret_eq (by rw [E1.out]; try rfl), B1⟩
  · have E1 := Lib.hid (show r = fnT x by rw [← HR.out, fnTextOr, if_pos h1])
    have E2 := Lib.hid (fun cs w h => funcText_i x cs w h h1 ht)
    clear h1
    go_wp2_with fail
    refine (E2.out _ _ (HX.out.below B1)).mono ?_
    rintro e w2 ⟨rfl, hb2⟩
    have B2 := B1.trans (hb2.mono B1.size)
    clear c hb2
    go_wp2
    go_ret
    exact ⟨ret_eq (by rw [E1.out]; try rfl), B2⟩
end Go.Proofs.Ytmhnendajefakaa
