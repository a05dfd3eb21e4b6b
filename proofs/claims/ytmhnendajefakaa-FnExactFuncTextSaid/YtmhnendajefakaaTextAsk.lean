/- TypeText: by the reference and by the program. -/
import Derived.Test.YtmhnendajefakaaTextI
import Derived.Test.YtmhnendajefakaaTyOkS
import Derived.Test.YtmhnendajefakaaTyOkI
namespace Go.Proofs.Ytmhnendajefakaa
open Go.RowKit

/-- The text form of a valid type, or none. -/
def textOr (x : Ty) : ByteArray := if tyOk x = true then tyT x else ⟨#[]⟩
theorem tyOk_shape {x : Ty} (h : tyOk x = true) : Ty.all shape x = true := by
  unfold tyOk at h
  rw [Bool.and_eq_true, Bool.and_eq_true] at h
  exact h.2.2
set_option maxHeartbeats 1000000 in
set_option maxRecDepth 20000 in
theorem askText_s (x : Ty) (r : ByteArray) (cs : List Value) (w : World) (hr : textOr x = r) (hcs : D.Ats w anyB x.ds cs) (ht : D.totals x.ds ≤ 1048576) :
    Calls Try.prog 18 #[.agg cs.toArray] w fun e w' => e = .returned (.string r) ∧ Below w.heap.size w w' := by
  have HX := Lib.hid hcs
  obtain ⟨k, n, A0, m0, c0, A0', m0', c0', rfl⟩ := Ty.form hcs
  clear hcs
  have HR := Lib.hid hr
  clear hr
  go_enter Try.func18, Try.ntmps18
  go_wp2_with fail
  refine (l03Ok_s x _ _ (HX.out.below ((Below.refl _ _).alloc (Nat.le_refl _) _))).mono ?_
  rintro e w1 ⟨rfl, hb1⟩
  obtain ⟨B1, bA⟩ := box1 (cA := [_, _, _, _]) hb1
  clear hb1
  have c := bA.cell
  cases h1 : tyOk x
  · have E1 := Lib.hid (show r = ⟨#[]⟩ by rw [← HR.out, textOr, if_neg (by rw [h1]; decide)])
    clear c h1
    go_wp2
    go_ret
    exact ⟨ret_eq (by rw [E1.out]; try rfl), B1⟩
  · have E1 := Lib.hid (show r = tyT x by rw [← HR.out, textOr, if_pos h1])
    have E2 := Lib.hid (l03Text_s x (tyOk_shape h1) ht)
    clear h1
    go_wp2_with fail
    refine (E2.out _ _ (HX.out.below B1)).mono ?_
    rintro e w2 ⟨rfl, hb2⟩
    have B2 := B1.trans (hb2.mono B1.size)
    clear c hb2
    go_wp2
    go_ret
    exact ⟨ret_eq (by rw [E1.out]; try rfl), B2⟩
set_option maxHeartbeats 1000000 in
set_option maxRecDepth 20000 in
theorem askText_i (x : Ty) (r : ByteArray) (cs : List Value) (w : World) (hr : textOr x = r) (hcs : D.Ats w anyB x.ds cs) (ht : D.totals x.ds ≤ 1048576) :
    Calls Try.prog 19 #[.agg cs.toArray] w fun e w' => e = .returned (.string r) ∧ Below w.heap.size w w' := by
  have hp : x.parts ≤ 2000000 := by have := Ty.parts_total x; omega
  have HX := Lib.hid hcs
  obtain ⟨k, n, A0, m0, c0, A0', m0', c0', rfl⟩ := Ty.form hcs
  clear hcs
  have HR := Lib.hid hr
  clear hr
  go_enter Try.func19, Try.ntmps19
  go_wp2_with fail
  refine (typeOk_i x _ _ (HX.out.below ((Below.refl _ _).alloc (Nat.le_refl _) _)) hp).mono ?_
  rintro e w1 ⟨rfl, hb1⟩
  obtain ⟨B1, bA⟩ := box1 (cA := [_, _, _, _]) hb1
  clear hb1
  have c := bA.cell
  cases h1 : tyOk x
  · have E1 := Lib.hid (show r = ⟨#[]⟩ by rw [← HR.out, textOr, if_neg (by rw [h1]; decide)])
    clear c h1
    go_wp2
    go_ret
    exact ⟨ret_eq (by rw [E1.out]; try rfl), B1⟩
  · have E1 := Lib.hid (show r = tyT x by rw [← HR.out, textOr, if_pos h1])
    have E2 := Lib.hid (typeText_i x (tyOk_shape h1) ht)
    clear h1
    go_wp2_with fail
    refine (E2.out _ _ (HX.out.below B1)).mono ?_
    rintro e w2 ⟨rfl, hb2⟩
    have B2 := B1.trans (hb2.mono B1.size)
    clear c hb2
    go_wp2
    go_ret
    exact ⟨ret_eq (by rw [E1.out]; try rfl), B2⟩
end Go.Proofs.Ytmhnendajefakaa
