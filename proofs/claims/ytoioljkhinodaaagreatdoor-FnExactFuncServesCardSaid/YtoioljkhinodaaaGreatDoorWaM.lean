/- MayStand and WhyNot: by the reference. MayStand and WhyNot: by the program. -/
import Derived.Test.YtoioljkhinodaaaGreatDoorWaS
import Derived.Test.YtoioljkhinodaaaGreatDoorTyOkS
import Derived.Test.YtoioljkhinodaaaGreatDoorWaI
import Derived.Test.YtoioljkhinodaaaGreatDoorTyOkI
import Derived.Test.YtoioljkhinodaaaGreatDoorVer
namespace Go.Proofs.YtoioljkhinodaaaGreatDoor
open Go.RowKit Go.Shelf

theorem tyOk_open {x : Ty} (h : tyOk x = true) : x.deep ≤ 4 ∧ Ty.all shape x = true := by
  unfold tyOk at h
  simp only [Bool.and_eq_true, decide_eq_true_eq] at h
  exact ⟨h.1, h.2.2⟩
def mayB (x y : Ty) : Bool := tyOk x && (tyOk y && !rsO (whyN 4 x y ⟨#[]⟩))
def whyV (x y : Ty) : Rs := if (tyOk x && tyOk y) = true then whyN 4 x y ⟨#[]⟩ else none
theorem blocks2 (w : World) (tA tB : TypeId) (cA cB : List Value) : ∃ w0, w0 = (w.alloc (.cells cA.toArray tA)).alloc (.cells cB.toArray tB) ∧ Below w.heap.size w w0 ∧ Box w0 w.heap.size tA cA ∧ Box w0 (w.heap.size + 1) tB cB := by
  refine ⟨_, rfl, ?_⟩
  obtain ⟨h1, h2, h3⟩ := box2 (cA := cA) (cB := cB) (Below.refl _ ((w.alloc (.cells cA.toArray tA)).alloc (.cells cB.toArray tB)))
  exact ⟨h1, h2, h3⟩
set_option maxHeartbeats 4000000 in
set_option maxRecDepth 20000 in
theorem l08May_s (R : Rs) (cs cs' : List Value) (w0 : World) (HW : ∀ W, Below w0.heap.size w0 W → Calls Tryz.prog 35 #[.agg cs.toArray, .agg cs'.toArray, .string ⟨#[]⟩] W fun e w' => e = .returned (.tuple #[.agg #[.int .i64 (rsK R), .string (rsT R)], .bool (rsO R)]) ∧ Below W.heap.size W w') (p0 : Int) (p1 : ByteArray) (p2 : Option Addr) (p3 p4 : Nat) (p5 : Option Addr) (p6 p7 : Nat) (q0 : Int) (q1 : ByteArray) (q2 : Option Addr) (q3 q4 : Nat) (q5 : Option Addr) (q6 q7 : Nat) (hc : cs = [.int .i64 p0, .string p1, .slice p2 p3 p4, .slice p5 p6 p7]) (hc' : cs' = [.int .i64 q0, .string q1, .slice q2 q3 q4, .slice q5 q6 q7]) (w : World) (G : Below w0.heap.size w0 w) :
    Calls Tryz.prog 28 #[.agg cs.toArray, .agg cs'.toArray] w fun e w' => e = .returned (.bool (!rsO R)) ∧ Below w.heap.size w w' := by
  subst hc hc'
  obtain ⟨w1, hw1, B1, bA, bB⟩ := blocks2 w 30 30 [.int .i64 p0, .string p1, .slice p2 p3 p4, .slice p5 p6 p7] [.int .i64 q0, .string q1, .slice q2 q3 q4, .slice q5 q6 q7]
  have HX := Lib.hid (HW w1 (G.trans (B1.mono G.size)))
  clear HW G
  have k1 := bA.cell
  have k2 := bB.cell
  change Calls Tryz.prog 28 #[.agg #[.int .i64 p0, .string p1, .slice p2 p3 p4, .slice p5 p6 p7], .agg #[.int .i64 q0, .string q1, .slice q2 q3 q4, .slice q5 q6 q7]] w _
  go_enter Tryz.func28, Tryz.ntmps28
  go_upto_region 1 with fail
  rw [← hw1]
  clear hw1
  go_wp2_with fail
  refine HX.out.mono ?_
  rintro e w3 ⟨rfl, hb3⟩
  have B3 := B1.trans (hb3.mono B1.size)
  clear k1 k2
  go_wp2
  exact bodyPost_ret (v := .bool (!rsO R)) (by simp [results, Tryz.results28, go_sem]) rfl ⟨rfl, B3.alloc B3.size _⟩
set_option maxHeartbeats 4000000 in
set_option maxRecDepth 20000 in
theorem mayStand_s (x y : Ty) (cs cs' : List Value) (w : World) (hp : D.totals x.ds ≤ 1048576) (hp' : D.totals y.ds ≤ 1048576) (hcs : D.Ats w anyB x.ds cs) (hcs' : D.Ats w anyB y.ds cs') :
    Calls Tryz.prog 8 #[.agg cs.toArray, .agg cs'.toArray] w fun e w' => e = .returned (.bool (mayB x y)) ∧ Below w.heap.size w w' := by
  obtain ⟨p0, p1, p2, p3, p4, p5, p6, p7, rfl⟩ := Ty.form hcs
  obtain ⟨q0, q1, q2, q3, q4, q5, q6, q7, rfl⟩ := Ty.form hcs'
  have hpx : x.parts ≤ 2000000 := by have := Ty.parts_total x; omega
  have hpy : y.parts ≤ 2000000 := by have := Ty.parts_total y; omega
  have HOX := Lib.hid (fun W h => typeOk_s x [.int .i64 p0, .string p1, .slice p2 p3 p4, .slice p5 p6 p7] W h)
  have HOY := Lib.hid (fun W h => typeOk_s y [.int .i64 q0, .string q1, .slice q2 q3 q4, .slice q5 q6 q7] W h)
  obtain ⟨w0, hw0, B0, bA, bB⟩ := blocks2 w 30 30 [.int .i64 p0, .string p1, .slice p2 p3 p4, .slice p5 p6 p7] [.int .i64 q0, .string q1, .slice q2 q3 q4, .slice q5 q6 q7]
  cases o1 : tyOk x
  · have HXX := Lib.hid (And.intro (hcs.below B0) (hcs'.below B0))
    have HV := Lib.hid (show mayB x y = false by unfold mayB; rw [o1]; simp)
    rw [o1] at HOX
    clear hcs hcs' hp hp' hpx hpy o1
    change Calls Tryz.prog 8 #[.agg #[.int .i64 p0, .string p1, .slice p2 p3 p4, .slice p5 p6 p7], .agg #[.int .i64 q0, .string q1, .slice q2 q3 q4, .slice q5 q6 q7]] w _
    have k1 := bA.cell
    have k2 := bB.cell
    go_enter Tryz.func8, Tryz.ntmps8
    go_upto_region 1 with fail
    rw [← hw0]
    clear hw0
    go_wp2_with fail
    refine (HOX.out _ HXX.out.1).mono ?_
    rintro e w1 ⟨rfl, hb1⟩
    have B1 : Below w0.heap.size w0 w1 := hb1
    clear k1 k2
    have bA1 := bA.call hb1
    have bB1 := bB.call hb1
    have k1 := bA1.cell
    have k2 := bB1.cell
    clear k1 k2
    go_wp2
    exact bodyPost_ret (v := .bool false) (by simp [results, Tryz.results8, go_sem]) rfl ⟨by rw [HV.out], B0.trans (B1.mono B0.size)⟩
  · cases o2 : tyOk y
    · have HXX := Lib.hid (And.intro (hcs.below B0) (hcs'.below B0))
      have HV := Lib.hid (show mayB x y = false by unfold mayB; rw [o1, o2]; simp)
      rw [o1] at HOX
      rw [o2] at HOY
      clear hcs hcs' hp hp' hpx hpy o1 o2
      change Calls Tryz.prog 8 #[.agg #[.int .i64 p0, .string p1, .slice p2 p3 p4, .slice p5 p6 p7], .agg #[.int .i64 q0, .string q1, .slice q2 q3 q4, .slice q5 q6 q7]] w _
      have k1 := bA.cell
      have k2 := bB.cell
      go_enter Tryz.func8, Tryz.ntmps8
      go_upto_region 1 with fail
      rw [← hw0]
      clear hw0
      go_wp2_with fail
      refine (HOX.out _ HXX.out.1).mono ?_
      rintro e w1 ⟨rfl, hb1⟩
      have B1 : Below w0.heap.size w0 w1 := hb1
      clear k1 k2
      have bA1 := bA.call hb1
      have bB1 := bB.call hb1
      have k1 := bA1.cell
      have k2 := bB1.cell
      go_wp2_with fail
      refine (HOY.out _ (HXX.out.2.below B1)).mono ?_
      rintro e w2 ⟨rfl, hb2⟩
      have B2 := B1.trans (hb2.mono B1.size)
      clear k1 k2
      have bA2 := bA1.call hb2
      have bB2 := bB1.call hb2
      have k1 := bA2.cell
      have k2 := bB2.cell
      clear k1 k2
      go_wp2
      exact bodyPost_ret (v := .bool false) (by simp [results, Tryz.results8, go_sem]) rfl ⟨by rw [HV.out], B0.trans (B2.mono B0.size)⟩
    · have HW := Lib.hid (fun W (G : Below w0.heap.size w0 W) => whyAt_s (fun _ => True) (fun _ _ _ _ => trivial) 4 x y ⟨#[]⟩ [.int .i64 p0, .string p1, .slice p2 p3 p4, .slice p5 p6 p7] [.int .i64 q0, .string q1, .slice q2 q3 q4, .slice q5 q6 q7] W (tyOk_open o1).1 (tyOk_open o1).2 (tyOk_open o2).2 (by decide) trivial (hcs.below (B0.trans (G.mono B0.size))) (hcs'.below (B0.trans (G.mono B0.size))))
      have HXX := Lib.hid (And.intro (hcs.below B0) (hcs'.below B0))
      have HV := Lib.hid (show mayB x y = (!rsO (whyN 4 x y ⟨#[]⟩)) by unfold mayB; rw [o1, o2]; simp)
      rw [o1] at HOX
      rw [o2] at HOY
      obtain ⟨R, hR⟩ : ∃ R, whyN 4 x y ⟨#[]⟩ = R := ⟨_, rfl⟩
      rw [hR] at HV HW
      simp only [retR_eq] at HW
      clear hR
      clear hcs hcs' hp hp' hpx hpy o1 o2
      change Calls Tryz.prog 8 #[.agg #[.int .i64 p0, .string p1, .slice p2 p3 p4, .slice p5 p6 p7], .agg #[.int .i64 q0, .string q1, .slice q2 q3 q4, .slice q5 q6 q7]] w _
      have k1 := bA.cell
      have k2 := bB.cell
      go_enter Tryz.func8, Tryz.ntmps8
      go_upto_region 1 with fail
      rw [← hw0]
      clear hw0
      go_wp2_with fail
      refine (HOX.out _ HXX.out.1).mono ?_
      rintro e w1 ⟨rfl, hb1⟩
      have B1 : Below w0.heap.size w0 w1 := hb1
      clear k1 k2
      have bA1 := bA.call hb1
      have bB1 := bB.call hb1
      have k1 := bA1.cell
      have k2 := bB1.cell
      go_wp2_with fail
      refine (HOY.out _ (HXX.out.2.below B1)).mono ?_
      rintro e w2 ⟨rfl, hb2⟩
      have B2 := B1.trans (hb2.mono B1.size)
      clear k1 k2
      have bA2 := bA1.call hb2
      have bB2 := bB1.call hb2
      have k1 := bA2.cell
      have k2 := bB2.cell
      go_wp2_with fail
      refine (l08May_s R _ _ _ HW.out _ _ _ _ _ _ _ _ _ _ _ _ _ _ _ _ rfl rfl _ B2).mono ?_
      rintro e w3 ⟨rfl, hb3⟩
      have B3 := B2.trans (hb3.mono B2.size)
      clear k1 k2
      go_wp2
      exact bodyPost_ret (v := .bool (!rsO R)) (by simp [results, Tryz.results8, go_sem]) rfl ⟨by rw [HV.out], B0.trans (B3.mono B0.size)⟩
set_option maxHeartbeats 4000000 in
set_option maxRecDepth 20000 in
theorem whyNot_s (x y : Ty) (cs cs' : List Value) (w : World) (hp : D.totals x.ds ≤ 1048576) (hp' : D.totals y.ds ≤ 1048576) (hcs : D.Ats w anyB x.ds cs) (hcs' : D.Ats w anyB y.ds cs') :
    Calls Tryz.prog 12 #[.agg cs.toArray, .agg cs'.toArray] w fun e w' => e = .returned (retR (whyV x y)) ∧ Below w.heap.size w w' := by
  obtain ⟨p0, p1, p2, p3, p4, p5, p6, p7, rfl⟩ := Ty.form hcs
  obtain ⟨q0, q1, q2, q3, q4, q5, q6, q7, rfl⟩ := Ty.form hcs'
  have hpx : x.parts ≤ 2000000 := by have := Ty.parts_total x; omega
  have hpy : y.parts ≤ 2000000 := by have := Ty.parts_total y; omega
  have HOX := Lib.hid (fun W h => typeOk_s x [.int .i64 p0, .string p1, .slice p2 p3 p4, .slice p5 p6 p7] W h)
  have HOY := Lib.hid (fun W h => typeOk_s y [.int .i64 q0, .string q1, .slice q2 q3 q4, .slice q5 q6 q7] W h)
  obtain ⟨w0, hw0, B0, bA, bB, bC⟩ := blocks3 w 30 30 34 [.int .i64 p0, .string p1, .slice p2 p3 p4, .slice p5 p6 p7] [.int .i64 q0, .string q1, .slice q2 q3 q4, .slice q5 q6 q7] [.int .i64 0, .string ⟨#[]⟩]
  cases o1 : tyOk x
  · have HXX := Lib.hid (And.intro (hcs.below B0) (hcs'.below B0))
    have HV := Lib.hid (show whyV x y = none by unfold whyV; rw [o1]; rfl)
    rw [o1] at HOX
    clear hcs hcs' hp hp' hpx hpy o1
    change Calls Tryz.prog 12 #[.agg #[.int .i64 p0, .string p1, .slice p2 p3 p4, .slice p5 p6 p7], .agg #[.int .i64 q0, .string q1, .slice q2 q3 q4, .slice q5 q6 q7]] w _
    have k1 := bA.cell
    have k2 := bB.cell
    have j5 := bC.cell
    have l5 := bC.frozen
    go_enter Tryz.func12, Tryz.ntmps12
    go_upto_region 1 with fail
    rw [← hw0]
    clear hw0
    go_wp2_with fail
    refine (HOX.out _ HXX.out.1).mono ?_
    rintro e w1 ⟨rfl, hb1⟩
    have B1 : Below w0.heap.size w0 w1 := hb1
    clear k1 k2 j5 l5
    have bA1 := bA.call hb1
    have bB1 := bB.call hb1
    have k1 := bA1.cell
    have k2 := bB1.cell
    have bC1 := bC.call hb1
    have j5 := bC1.cell
    have l5 := bC1.frozen
    have fin := B0.trans (B1.mono B0.size)
    go_wp2
    exact bodyPost_ret (v := .tuple #[.agg #[.int .i64 0, .string ⟨#[]⟩], .bool false]) (by simp [results, Tryz.results12, go_sem, j5]) rfl ⟨by rw [HV.out]; rfl, (fin.setCell (by simp <;> omega) _).setCell (by simp <;> omega) _⟩
  · cases o2 : tyOk y
    · have HXX := Lib.hid (And.intro (hcs.below B0) (hcs'.below B0))
      have HV := Lib.hid (show whyV x y = none by unfold whyV; rw [o1, o2]; rfl)
      rw [o1] at HOX
      rw [o2] at HOY
      clear hcs hcs' hp hp' hpx hpy o1 o2
      change Calls Tryz.prog 12 #[.agg #[.int .i64 p0, .string p1, .slice p2 p3 p4, .slice p5 p6 p7], .agg #[.int .i64 q0, .string q1, .slice q2 q3 q4, .slice q5 q6 q7]] w _
      have k1 := bA.cell
      have k2 := bB.cell
      have j5 := bC.cell
      have l5 := bC.frozen
      go_enter Tryz.func12, Tryz.ntmps12
      go_upto_region 1 with fail
      rw [← hw0]
      clear hw0
      go_wp2_with fail
      refine (HOX.out _ HXX.out.1).mono ?_
      rintro e w1 ⟨rfl, hb1⟩
      have B1 : Below w0.heap.size w0 w1 := hb1
      clear k1 k2 j5 l5
      have bA1 := bA.call hb1
      have bB1 := bB.call hb1
      have k1 := bA1.cell
      have k2 := bB1.cell
      have bC1 := bC.call hb1
      have j5 := bC1.cell
      have l5 := bC1.frozen
      go_wp2_with fail
      refine (HOY.out _ (HXX.out.2.below B1)).mono ?_
      rintro e w2 ⟨rfl, hb2⟩
      have B2 := B1.trans (hb2.mono B1.size)
      clear k1 k2 j5 l5
      have bA2 := bA1.call hb2
      have bB2 := bB1.call hb2
      have k1 := bA2.cell
      have k2 := bB2.cell
      have bC2 := bC1.call hb2
      have j5 := bC2.cell
      have l5 := bC2.frozen
      have fin := B0.trans (B2.mono B0.size)
      go_wp2
      exact bodyPost_ret (v := .tuple #[.agg #[.int .i64 0, .string ⟨#[]⟩], .bool false]) (by simp [results, Tryz.results12, go_sem, j5]) rfl ⟨by rw [HV.out]; rfl, (fin.setCell (by simp <;> omega) _).setCell (by simp <;> omega) _⟩
    · have HW := Lib.hid (fun W (G : Below w0.heap.size w0 W) => whyAt_s (fun _ => True) (fun _ _ _ _ => trivial) 4 x y ⟨#[]⟩ [.int .i64 p0, .string p1, .slice p2 p3 p4, .slice p5 p6 p7] [.int .i64 q0, .string q1, .slice q2 q3 q4, .slice q5 q6 q7] W (tyOk_open o1).1 (tyOk_open o1).2 (tyOk_open o2).2 (by decide) trivial (hcs.below (B0.trans (G.mono B0.size))) (hcs'.below (B0.trans (G.mono B0.size))))
      have HXX := Lib.hid (And.intro (hcs.below B0) (hcs'.below B0))
      have HV := Lib.hid (show whyV x y = whyN 4 x y ⟨#[]⟩ by unfold whyV; rw [o1, o2]; rfl)
      rw [o1] at HOX
      rw [o2] at HOY
      obtain ⟨R, hR⟩ : ∃ R, whyN 4 x y ⟨#[]⟩ = R := ⟨_, rfl⟩
      rw [hR] at HV HW
      simp only [retR_eq] at HW
      clear hR
      clear hcs hcs' hp hp' hpx hpy o1 o2
      change Calls Tryz.prog 12 #[.agg #[.int .i64 p0, .string p1, .slice p2 p3 p4, .slice p5 p6 p7], .agg #[.int .i64 q0, .string q1, .slice q2 q3 q4, .slice q5 q6 q7]] w _
      have k1 := bA.cell
      have k2 := bB.cell
      have j5 := bC.cell
      have l5 := bC.frozen
      go_enter Tryz.func12, Tryz.ntmps12
      go_upto_region 1 with fail
      rw [← hw0]
      clear hw0
      go_wp2_with fail
      refine (HOX.out _ HXX.out.1).mono ?_
      rintro e w1 ⟨rfl, hb1⟩
      have B1 : Below w0.heap.size w0 w1 := hb1
      clear k1 k2 j5 l5
      have bA1 := bA.call hb1
      have bB1 := bB.call hb1
      have k1 := bA1.cell
      have k2 := bB1.cell
      have bC1 := bC.call hb1
      have j5 := bC1.cell
      have l5 := bC1.frozen
      go_wp2_with fail
      refine (HOY.out _ (HXX.out.2.below B1)).mono ?_
      rintro e w2 ⟨rfl, hb2⟩
      have B2 := B1.trans (hb2.mono B1.size)
      clear k1 k2 j5 l5
      have bA2 := bA1.call hb2
      have bB2 := bB1.call hb2
      have k1 := bA2.cell
      have k2 := bB2.cell
      have bC2 := bC1.call hb2
      have j5 := bC2.cell
      have l5 := bC2.frozen
      go_wp2_with fail
      refine (HW.out _ B2).mono ?_
      rintro e w3 ⟨rfl, hb3⟩
      have B3 := B2.trans (hb3.mono B2.size)
      clear k1 k2 j5 l5
      have bC3 := bC2.call hb3
      have j5 := bC3.cell
      have l5 := bC3.frozen
      have fin := B0.trans (B3.mono B0.size)
      go_wp2
      exact bodyPost_ret (v := .tuple #[.agg #[.int .i64 (rsK R), .string (rsT R)], .bool (rsO R)]) (by simp [results, Tryz.results12, go_sem, j5]) rfl ⟨by rw [HV.out, retR_eq], (fin.setCell (by simp <;> omega) _).setCell (by simp <;> omega) _⟩
end Go.Proofs.YtoioljkhinodaaaGreatDoor
namespace Go.Proofs.YtoioljkhinodaaaGreatDoor
open Go.RowKit Go.Shelf

set_option maxHeartbeats 4000000 in
set_option maxRecDepth 20000 in
theorem mayStand_i (x y : Ty) (cs cs' : List Value) (w : World) (ht : Tab10 w) (hp : D.totals x.ds ≤ 1048576) (hp' : D.totals y.ds ≤ 1048576) (hcs : D.Ats w anyB x.ds cs) (hcs' : D.Ats w anyB y.ds cs') :
    Calls Tryz.prog 10 #[.agg cs.toArray, .agg cs'.toArray] w fun e w' => e = .returned (.bool (mayB x y)) ∧ Below w.heap.size w w' := by
  obtain ⟨p0, p1, p2, p3, p4, p5, p6, p7, rfl⟩ := Ty.form hcs
  obtain ⟨q0, q1, q2, q3, q4, q5, q6, q7, rfl⟩ := Ty.form hcs'
  have hpx : x.parts ≤ 2000000 := by have := Ty.parts_total x; omega
  have hpy : y.parts ≤ 2000000 := by have := Ty.parts_total y; omega
  have HOX := Lib.hid (fun W h => typeOk_i x [.int .i64 p0, .string p1, .slice p2 p3 p4, .slice p5 p6 p7] W h hpx)
  have HOY := Lib.hid (fun W h => typeOk_i y [.int .i64 q0, .string q1, .slice q2 q3 q4, .slice q5 q6 q7] W h hpy)
  obtain ⟨w0, hw0, B0, bA, bB⟩ := blocks2 w 30 30 [.int .i64 p0, .string p1, .slice p2 p3 p4, .slice p5 p6 p7] [.int .i64 q0, .string q1, .slice q2 q3 q4, .slice q5 q6 q7]
  cases o1 : tyOk x
  · have HXX := Lib.hid (And.intro (hcs.below B0) (hcs'.below B0))
    have HV := Lib.hid (show mayB x y = false by unfold mayB; rw [o1]; simp)
    rw [o1] at HOX
    clear hcs hcs' hp hp' hpx hpy o1 ht
    change Calls Tryz.prog 10 #[.agg #[.int .i64 p0, .string p1, .slice p2 p3 p4, .slice p5 p6 p7], .agg #[.int .i64 q0, .string q1, .slice q2 q3 q4, .slice q5 q6 q7]] w _
    have k1 := bA.cell
    have k2 := bB.cell
    go_enter Tryz.func10, Tryz.ntmps10
    go_upto_region 1 with fail
    rw [← hw0]
    clear hw0
    go_wp2_with fail
    refine (HOX.out _ HXX.out.1).mono ?_
    rintro e w1 ⟨rfl, hb1⟩
    have B1 : Below w0.heap.size w0 w1 := hb1
    clear k1 k2
    have bA1 := bA.call hb1
    have bB1 := bB.call hb1
    have k1 := bA1.cell
    have k2 := bB1.cell
    clear k1 k2
    go_wp2
    exact bodyPost_ret (v := .bool false) (by simp [results, Tryz.results10, go_sem]) rfl ⟨by rw [HV.out], B0.trans (B1.mono B0.size)⟩
  · cases o2 : tyOk y
    · have HXX := Lib.hid (And.intro (hcs.below B0) (hcs'.below B0))
      have HV := Lib.hid (show mayB x y = false by unfold mayB; rw [o1, o2]; simp)
      rw [o1] at HOX
      rw [o2] at HOY
      clear hcs hcs' hp hp' hpx hpy o1 o2 ht
      change Calls Tryz.prog 10 #[.agg #[.int .i64 p0, .string p1, .slice p2 p3 p4, .slice p5 p6 p7], .agg #[.int .i64 q0, .string q1, .slice q2 q3 q4, .slice q5 q6 q7]] w _
      have k1 := bA.cell
      have k2 := bB.cell
      go_enter Tryz.func10, Tryz.ntmps10
      go_upto_region 1 with fail
      rw [← hw0]
      clear hw0
      go_wp2_with fail
      refine (HOX.out _ HXX.out.1).mono ?_
      rintro e w1 ⟨rfl, hb1⟩
      have B1 : Below w0.heap.size w0 w1 := hb1
      clear k1 k2
      have bA1 := bA.call hb1
      have bB1 := bB.call hb1
      have k1 := bA1.cell
      have k2 := bB1.cell
      go_wp2_with fail
      refine (HOY.out _ (HXX.out.2.below B1)).mono ?_
      rintro e w2 ⟨rfl, hb2⟩
      have B2 := B1.trans (hb2.mono B1.size)
      clear k1 k2
      have bA2 := bA1.call hb2
      have bB2 := bB1.call hb2
      have k1 := bA2.cell
      have k2 := bB2.cell
      clear k1 k2
      go_wp2
      exact bodyPost_ret (v := .bool false) (by simp [results, Tryz.results10, go_sem]) rfl ⟨by rw [HV.out], B0.trans (B2.mono B0.size)⟩
    · have HW := Lib.hid (fun W (G : Below w0.heap.size w0 W) => whyAt_i Tab10 (fun _ _ h hb => h.below hb) (fun _ h => h) 4 x y ⟨#[]⟩ [.int .i64 p0, .string p1, .slice p2 p3 p4, .slice p5 p6 p7] [.int .i64 q0, .string q1, .slice q2 q3 q4, .slice q5 q6 q7] W (tyOk_open o1).1 (tyOk_open o1).2 (tyOk_open o2).2 (by decide) ((ht.below B0).below G) (hcs.below (B0.trans (G.mono B0.size))) (hcs'.below (B0.trans (G.mono B0.size))))
      have HXX := Lib.hid (And.intro (hcs.below B0) (hcs'.below B0))
      have HV := Lib.hid (show mayB x y = (!rsO (whyN 4 x y ⟨#[]⟩)) by unfold mayB; rw [o1, o2]; simp)
      rw [o1] at HOX
      rw [o2] at HOY
      obtain ⟨R, hR⟩ : ∃ R, whyN 4 x y ⟨#[]⟩ = R := ⟨_, rfl⟩
      rw [hR] at HV HW
      simp only [retR_eq] at HW
      clear hR
      clear hcs hcs' hp hp' hpx hpy o1 o2 ht
      change Calls Tryz.prog 10 #[.agg #[.int .i64 p0, .string p1, .slice p2 p3 p4, .slice p5 p6 p7], .agg #[.int .i64 q0, .string q1, .slice q2 q3 q4, .slice q5 q6 q7]] w _
      have k1 := bA.cell
      have k2 := bB.cell
      go_enter Tryz.func10, Tryz.ntmps10
      go_upto_region 1 with fail
      rw [← hw0]
      clear hw0
      go_wp2_with fail
      refine (HOX.out _ HXX.out.1).mono ?_
      rintro e w1 ⟨rfl, hb1⟩
      have B1 : Below w0.heap.size w0 w1 := hb1
      clear k1 k2
      have bA1 := bA.call hb1
      have bB1 := bB.call hb1
      have k1 := bA1.cell
      have k2 := bB1.cell
      go_wp2_with fail
      refine (HOY.out _ (HXX.out.2.below B1)).mono ?_
      rintro e w2 ⟨rfl, hb2⟩
      have B2 := B1.trans (hb2.mono B1.size)
      clear k1 k2
      have bA2 := bA1.call hb2
      have bB2 := bB1.call hb2
      have k1 := bA2.cell
      have k2 := bB2.cell
      go_wp2_with fail
      refine (HW.out _ B2).mono ?_
      rintro e w3 ⟨rfl, hb3⟩
      have B3 := B2.trans (hb3.mono B2.size)
      clear k1 k2
      go_wp2
      exact bodyPost_ret (v := .bool (!rsO R)) (by simp [results, Tryz.results10, go_sem]) rfl ⟨by rw [HV.out], (B0.trans (B3.mono B0.size)).alloc (Nat.le_trans B0.size B3.size) _⟩
set_option maxHeartbeats 4000000 in
set_option maxRecDepth 20000 in
theorem whyNot_i (x y : Ty) (cs cs' : List Value) (w : World) (ht : Tab10 w) (hp : D.totals x.ds ≤ 1048576) (hp' : D.totals y.ds ≤ 1048576) (hcs : D.Ats w anyB x.ds cs) (hcs' : D.Ats w anyB y.ds cs') :
    Calls Tryz.prog 13 #[.agg cs.toArray, .agg cs'.toArray] w fun e w' => e = .returned (retR (whyV x y)) ∧ Below w.heap.size w w' := by
  obtain ⟨p0, p1, p2, p3, p4, p5, p6, p7, rfl⟩ := Ty.form hcs
  obtain ⟨q0, q1, q2, q3, q4, q5, q6, q7, rfl⟩ := Ty.form hcs'
  have hpx : x.parts ≤ 2000000 := by have := Ty.parts_total x; omega
  have hpy : y.parts ≤ 2000000 := by have := Ty.parts_total y; omega
  have HOX := Lib.hid (fun W h => typeOk_i x [.int .i64 p0, .string p1, .slice p2 p3 p4, .slice p5 p6 p7] W h hpx)
  have HOY := Lib.hid (fun W h => typeOk_i y [.int .i64 q0, .string q1, .slice q2 q3 q4, .slice q5 q6 q7] W h hpy)
  obtain ⟨w0, hw0, B0, bA, bB, bC⟩ := blocks3 w 30 30 34 [.int .i64 p0, .string p1, .slice p2 p3 p4, .slice p5 p6 p7] [.int .i64 q0, .string q1, .slice q2 q3 q4, .slice q5 q6 q7] [.int .i64 0, .string ⟨#[]⟩]
  cases o1 : tyOk x
  · have HXX := Lib.hid (And.intro (hcs.below B0) (hcs'.below B0))
    have HV := Lib.hid (show whyV x y = none by unfold whyV; rw [o1]; rfl)
    rw [o1] at HOX
    clear hcs hcs' hp hp' hpx hpy o1 ht
    change Calls Tryz.prog 13 #[.agg #[.int .i64 p0, .string p1, .slice p2 p3 p4, .slice p5 p6 p7], .agg #[.int .i64 q0, .string q1, .slice q2 q3 q4, .slice q5 q6 q7]] w _
    have k1 := bA.cell
    have k2 := bB.cell
    have j5 := bC.cell
    have l5 := bC.frozen
    go_enter Tryz.func13, Tryz.ntmps13
    go_upto_region 1 with fail
    rw [← hw0]
    clear hw0
    go_wp2_with fail
    refine (HOX.out _ HXX.out.1).mono ?_
    rintro e w1 ⟨rfl, hb1⟩
    have B1 : Below w0.heap.size w0 w1 := hb1
    clear k1 k2 j5 l5
    have bA1 := bA.call hb1
    have bB1 := bB.call hb1
    have k1 := bA1.cell
    have k2 := bB1.cell
    have bC1 := bC.call hb1
    have j5 := bC1.cell
    have l5 := bC1.frozen
    have fin := B0.trans (B1.mono B0.size)
    go_wp2_with fail
    refine (none_i _).mono ?_
    rintro e w7 ⟨rfl, hb7⟩
    have fin7 := fin.trans (hb7.mono fin.size)
    clear k1 k2 j5 l5
    have bC7 := bC1.call hb7
    have j5 := bC7.cell
    have l5 := bC7.frozen
    go_wp2
    exact bodyPost_ret (v := .tuple #[.agg #[.int .i64 0, .string ⟨#[]⟩], .bool false]) (by simp [results, Tryz.results13, go_sem, j5]) rfl ⟨by rw [HV.out]; rfl, (fin7.setCell (by simp <;> omega) _).setCell (by simp <;> omega) _⟩
  · cases o2 : tyOk y
    · have HXX := Lib.hid (And.intro (hcs.below B0) (hcs'.below B0))
      have HV := Lib.hid (show whyV x y = none by unfold whyV; rw [o1, o2]; rfl)
      rw [o1] at HOX
      rw [o2] at HOY
      clear hcs hcs' hp hp' hpx hpy o1 o2 ht
      change Calls Tryz.prog 13 #[.agg #[.int .i64 p0, .string p1, .slice p2 p3 p4, .slice p5 p6 p7], .agg #[.int .i64 q0, .string q1, .slice q2 q3 q4, .slice q5 q6 q7]] w _
      have k1 := bA.cell
      have k2 := bB.cell
      have j5 := bC.cell
      have l5 := bC.frozen
      go_enter Tryz.func13, Tryz.ntmps13
      go_upto_region 1 with fail
      rw [← hw0]
      clear hw0
      go_wp2_with fail
      refine (HOX.out _ HXX.out.1).mono ?_
      rintro e w1 ⟨rfl, hb1⟩
      have B1 : Below w0.heap.size w0 w1 := hb1
      clear k1 k2 j5 l5
      have bA1 := bA.call hb1
      have bB1 := bB.call hb1
      have k1 := bA1.cell
      have k2 := bB1.cell
      have bC1 := bC.call hb1
      have j5 := bC1.cell
      have l5 := bC1.frozen
      go_wp2_with fail
      refine (HOY.out _ (HXX.out.2.below B1)).mono ?_
      rintro e w2 ⟨rfl, hb2⟩
      have B2 := B1.trans (hb2.mono B1.size)
      clear k1 k2 j5 l5
      have bA2 := bA1.call hb2
      have bB2 := bB1.call hb2
      have k1 := bA2.cell
      have k2 := bB2.cell
      have bC2 := bC1.call hb2
      have j5 := bC2.cell
      have l5 := bC2.frozen
      have fin := B0.trans (B2.mono B0.size)
      go_wp2_with fail
      refine (none_i _).mono ?_
      rintro e w7 ⟨rfl, hb7⟩
      have fin7 := fin.trans (hb7.mono fin.size)
      clear k1 k2 j5 l5
      have bC7 := bC2.call hb7
      have j5 := bC7.cell
      have l5 := bC7.frozen
      go_wp2
      exact bodyPost_ret (v := .tuple #[.agg #[.int .i64 0, .string ⟨#[]⟩], .bool false]) (by simp [results, Tryz.results13, go_sem, j5]) rfl ⟨by rw [HV.out]; rfl, (fin7.setCell (by simp <;> omega) _).setCell (by simp <;> omega) _⟩
    · have HW := Lib.hid (fun W (G : Below w0.heap.size w0 W) => whyAt_i Tab10 (fun _ _ h hb => h.below hb) (fun _ h => h) 4 x y ⟨#[]⟩ [.int .i64 p0, .string p1, .slice p2 p3 p4, .slice p5 p6 p7] [.int .i64 q0, .string q1, .slice q2 q3 q4, .slice q5 q6 q7] W (tyOk_open o1).1 (tyOk_open o1).2 (tyOk_open o2).2 (by decide) ((ht.below B0).below G) (hcs.below (B0.trans (G.mono B0.size))) (hcs'.below (B0.trans (G.mono B0.size))))
      have HXX := Lib.hid (And.intro (hcs.below B0) (hcs'.below B0))
      have HV := Lib.hid (show whyV x y = whyN 4 x y ⟨#[]⟩ by unfold whyV; rw [o1, o2]; rfl)
      rw [o1] at HOX
      rw [o2] at HOY
      obtain ⟨R, hR⟩ : ∃ R, whyN 4 x y ⟨#[]⟩ = R := ⟨_, rfl⟩
      rw [hR] at HV HW
      simp only [retR_eq] at HW
      clear hR
      clear hcs hcs' hp hp' hpx hpy o1 o2 ht
      change Calls Tryz.prog 13 #[.agg #[.int .i64 p0, .string p1, .slice p2 p3 p4, .slice p5 p6 p7], .agg #[.int .i64 q0, .string q1, .slice q2 q3 q4, .slice q5 q6 q7]] w _
      have k1 := bA.cell
      have k2 := bB.cell
      have j5 := bC.cell
      have l5 := bC.frozen
      go_enter Tryz.func13, Tryz.ntmps13
      go_upto_region 1 with fail
      rw [← hw0]
      clear hw0
      go_wp2_with fail
      refine (HOX.out _ HXX.out.1).mono ?_
      rintro e w1 ⟨rfl, hb1⟩
      have B1 : Below w0.heap.size w0 w1 := hb1
      clear k1 k2 j5 l5
      have bA1 := bA.call hb1
      have bB1 := bB.call hb1
      have k1 := bA1.cell
      have k2 := bB1.cell
      have bC1 := bC.call hb1
      have j5 := bC1.cell
      have l5 := bC1.frozen
      go_wp2_with fail
      refine (HOY.out _ (HXX.out.2.below B1)).mono ?_
      rintro e w2 ⟨rfl, hb2⟩
      have B2 := B1.trans (hb2.mono B1.size)
      clear k1 k2 j5 l5
      have bA2 := bA1.call hb2
      have bB2 := bB1.call hb2
      have k1 := bA2.cell
      have k2 := bB2.cell
      have bC2 := bC1.call hb2
      have j5 := bC2.cell
      have l5 := bC2.frozen
      go_wp2_with fail
      refine (HW.out _ B2).mono ?_
      rintro e w3 ⟨rfl, hb3⟩
      have B3 := B2.trans (hb3.mono B2.size)
      clear k1 k2 j5 l5
      have bC3 := bC2.call hb3
      have j5 := bC3.cell
      have l5 := bC3.frozen
      have fin := B0.trans (B3.mono B0.size)
      go_wp2
      exact bodyPost_ret (v := .tuple #[.agg #[.int .i64 (rsK R), .string (rsT R)], .bool (rsO R)]) (by simp [results, Tryz.results13, go_sem, j5]) rfl ⟨by rw [HV.out, retR_eq], (fin.setCell (by simp <;> omega) _).setCell (by simp <;> omega) _⟩
end Go.Proofs.YtoioljkhinodaaaGreatDoor
