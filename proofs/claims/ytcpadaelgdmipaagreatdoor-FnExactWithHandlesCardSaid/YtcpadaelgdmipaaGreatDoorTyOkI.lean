/- A type is valid: by the program. -/
import Derived.Test.YtcpadaelgdmipaaGreatDoorTyShapeI
import Derived.Test.YtcpadaelgdmipaaGreatDoorTyShapeJ
import Derived.Test.YtcpadaelgdmipaaGreatDoorTyDeep
namespace Go.Proofs.YtcpadaelgdmipaaGreatDoor
open Go.RowKit Go.Shelf

set_option maxRecDepth 20000 in
theorem shapeOk_clo (x : Ty) (ih : ∀ (cs : List Value) (w : World), D.Ats w anyB x.ds cs → Calls Tryz.prog 85 #[.agg cs.toArray] w fun e w' => e = .returned (.bool (Ty.all shape x)) ∧ Below w.heap.size w w') :
    IsPr 101 Ty.ds (fun y => !Ty.all shape y) #[] (fun _ => True) x := by
  intro cs w _ hcs
  obtain ⟨k, n, A0, m0, c0, A0', m0', c0', rfl⟩ := Ty.form hcs
  have HA := Lib.hid hcs
  have HI := Lib.hid ih
  clear hcs ih
  go_enter Tryz.func101, Tryz.ntmps101
  go_wp2_with fail
  refine (HI.out _ _ (HA.out.below ((Below.refl _ _).alloc (Nat.le_refl _) _))).mono ?_
  rintro e w1 ⟨rfl, hb1⟩
  obtain ⟨B1, -⟩ := box1 (cA := [_, _, _, _]) hb1
  clear hb1
  cases hs : Ty.all shape x
  all_goals
    have HS := Lib.hid hs
    clear hs
    go_wp2
    go_ret
    exact ⟨ret_eq (by rw [HS.out]; rfl), B1⟩
theorem shapeOk_i (x : Ty) : ∀ (cs : List Value) (w : World), D.Ats w anyB x.ds cs →
    Calls Tryz.prog 85 #[.agg cs.toArray] w fun e w' => e = .returned (.bool (Ty.all shape x)) ∧ Below w.heap.size w w' := by
  induction x using Ty.ind with
  | h k n l kids ih =>
    intro cs w hcs
    have hi := fun x hx => shapeOk_clo x (ih x hx)
    by_cases h : 0 < l.length
    · exact shapeOk_i1 k n l kids cs w h hcs hi
    · exact shapeOk_i0 k n l kids cs w (List.eq_nil_of_length_eq_zero (by omega)) hcs hi

set_option maxHeartbeats 1000000 in
set_option maxRecDepth 20000 in
theorem typeOk_i (x : Ty) (cs : List Value) (w : World) (hcs : D.Ats w anyB x.ds cs) (hp : x.parts ≤ 2000000) :
    Calls Tryz.prog 50 #[.agg cs.toArray] w fun e w' => e = .returned (.bool (tyOk x)) ∧ Below w.heap.size w w' := by
  obtain ⟨m, hm⟩ : ∃ m, min x.deep (4 + 1) = m := ⟨_, rfl⟩
  have HD := Lib.hid (fun (cs : List Value) (w : World) (h : D.Ats w anyB x.ds cs) => deep_i 4 x cs 4 w rfl (Nat.le_refl _) h)
  rw [hm] at HD
  have HX := Lib.hid hcs
  obtain ⟨k, n, A0, m0, c0, A0', m0', c0', rfl⟩ := Ty.form hcs
  clear hcs
  have E0 := Lib.hid (show tyOk x = (decide (x.deep ≤ 4) && (decide (x.parts ≤ 24) && Ty.all shape x)) from rfl)
  go_enter Tryz.func50, Tryz.ntmps50
  go_wp2_with fail
  refine (HD.out _ _ (HX.out.below ((Below.refl _ _).alloc (Nat.le_refl _) _))).mono ?_
  rintro e w1 ⟨rfl, hb1⟩
  obtain ⟨B1, bA⟩ := box1 (cA := [_, _, _, _]) hb1
  clear hb1
  have c := bA.cell
  by_cases h4 : (m : Int) ≤ 4
  · have E1 := Lib.hid (show decide (x.deep ≤ 4) = true from decide_eq_true (by omega))
    clear hm
    go_wp2_with fail
    refine (parts_i x _ _ (HX.out.below B1) hp).mono ?_
    rintro e w2 ⟨rfl, hb2⟩
    have B2 := B1.trans (hb2.mono B1.size)
    replace bA := bA.call hb2
    clear c hb2
    have c := bA.cell
    by_cases h24 : (x.parts : Int) ≤ 24
    · have E2 := Lib.hid (show decide (x.parts ≤ 24) = true from decide_eq_true (by omega))
      go_wp2_with fail
      refine (shapeOk_i x _ _ (HX.out.below B2)).mono ?_
      rintro e w3 ⟨rfl, hb3⟩
      have B3 := B2.trans (hb3.mono B2.size)
      clear c hb3
      go_wp2
      go_ret
      exact ⟨ret_eq (by rw [E0.out, E1.out, E2.out]; rfl), B3⟩
    · have E2 := Lib.hid (show decide (x.parts ≤ 24) = false from decide_eq_false (by omega))
      clear c
      go_wp2
      go_ret
      exact ⟨ret_eq (by rw [E0.out, E1.out, E2.out]; rfl), B2⟩
  · have E1 := Lib.hid (show decide (x.deep ≤ 4) = false from decide_eq_false (by omega))
    clear hm c
    go_wp2
    go_ret
    exact ⟨ret_eq (by rw [E0.out, E1.out]; rfl), B1⟩
end Go.Proofs.YtcpadaelgdmipaaGreatDoor
