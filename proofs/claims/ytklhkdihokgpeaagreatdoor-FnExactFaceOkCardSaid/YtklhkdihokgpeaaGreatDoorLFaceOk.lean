/- FaceOk: the law. -/
import Derived.Test.YtklhkdihokgpeaaGreatDoorPkO
import Derived.Test.YtklhkdihokgpeaaGreatDoorPkG
import Derived.Test.YtklhkdihokgpeaaGreatDoorFaI
import Derived.Deep.DeepCutAuto
namespace Go.Proofs.YtklhkdihokgpeaaGreatDoor
open Go.RowKit Go.ChangeShapes Go.WideShapes

theorem toFace_cFaceOk (x : Fa) (cs : List Value) (w : World) (h : D.Ats w anyB x.ds cs) (ht : D.totals x.ds ≤ 1048576) : Calls Tryz.prog 9 #[.agg cs.toArray] w (RetDs x.ds w) := toFace_w x cs w h ht
theorem eqFace_cFaceOk (x y : Fa) (cs cs' : List Value) (w : World) (h : D.Ats w anyB x.ds cs) (h' : D.Ats w anyB y.ds cs') :
    Calls Tryz.prog 11 #[.agg cs.toArray, .agg cs'.toArray] w fun e w' => e = .returned (.bool (Fa.same x y)) ∧ Below w.heap.size w w' := eqFace_w x y cs cs' w h h'

set_option maxHeartbeats 2000000 in
set_option maxRecDepth 20000 in
theorem law_FnExactFaceOk {H : Type} {enc : TypeId × Value → H} {b0 : Nat} {w : World} (v : Value) (d : DataW H) (p : List MemPlace) (hv : Value.okWide Tryz.prog w .any b0 25 v)
    (h : DataW.Trod enc Tryz.prog w 0 (fun _ => true) true 25 v d p) (ht : VerW w) :
    Calls Tryz.prog 3 #[v] w fun e w' => e = .returned (.bool true) ∧ Below w.heap.size w w' := by
  obtain ⟨cs, X, rfl, hx⟩ := Face_arg hv h
  clear hv h
  have HVW := Lib.hid ht
  clear ht
  obtain ⟨k0, k1, k2, k3, k4, k5, k6, k7, k8, rfl⟩ := Fa.form hx
  have HX := Lib.hid hx
  clear hx
  go_enter Tryz.func3, Tryz.ntmps3
  go_wp2_with fail
  refine (szFace_w X _ _ _ (HX.out.below (by repeat (first | exact Below.refl _ _ | refine Below.alloc ?_ (by first | omega | (simp <;> omega)) _))) (by omega) (by omega)).mono ?_
  rintro e w1 ⟨rfl, hb1⟩
  obtain ⟨B1, bA⟩ := box1 (cA := [_, _, _, _, _]) hb1
  clear hb1
  by_cases hle : (D.totals X.ds : Int) ≤ 1048576
  · rw [left_yes hle]
    have hg : ¬ (1048576 - (D.totals X.ds : Int) < 0) := by omega
    have HPP := Lib.hid (show D.totals X.ds ≤ 1048576 by omega)
    have c := bA.cell
    go_wp2_with fail
    refine (toFace_w X _ _ (HX.out.below B1) (by omega)).mono ?_
    rintro e w2 ⟨cs2, rfl, hcs2, hb2⟩
    obtain ⟨z0, z1, z2, z3, z4, z5, z6, z7, z8, rfl⟩ := Fa.form hcs2
    have B2 := B1.trans (hb2.mono B1.size)
    replace bA := bA.call hb2
    have q2 := Lib.hid (show D.Ats w2 anyB X.ds _ from hcs2.weaken (fun _ _ => trivial))
    clear c hb2 hcs2
    have c := bA.cell
    go_wp2_with fail
    refine (faceOk_s X _ _ q2.out).mono ?_
    rintro e w3 ⟨rfl, hb3⟩
    have B3 := B2.trans (hb3.mono B2.size)
    replace bA := bA.call hb3
    clear c hb3 q2
    obtain ⟨R, hR⟩ : ∃ R, faceOk X = R := ⟨_, rfl⟩
    rw [hR]
    have HR := Lib.hid hR
    clear hR
    have c := bA.cell
    go_wp2_with fail
    refine (toFace_w X _ _ (HX.out.below B3) (by omega)).mono ?_
    rintro e w4 ⟨cs4, rfl, hcs4, hb4⟩
    obtain ⟨y0, y1, y2, y3, y4, y5, y6, y7, y8, rfl⟩ := Fa.form hcs4
    have B4 := B3.trans (hb4.mono B3.size)
    replace bA := bA.call hb4
    have q4 := hcs4.weaken (S' := anyB) (fun _ _ => trivial)
    have Q4 := Lib.hid q4
    clear c hb4 hcs4 q4
    have c := bA.cell
    have lA := bA.lt
    go_wp2_with fail
    refine (faceOk_i X _ _ (HVW.out.below (B4.alloc B4.size _)) (Q4.out.below ((Below.refl _ _).alloc (Nat.le_refl _) _)) HPP.out).mono ?_
    rintro e w5 ⟨rfl, hb5⟩
    have bC : Box w5 w4.heap.size 30 [.string y0, .string y1, .string y2, .slice y3 y4 y5, .slice y6 y7 y8] := (Box.new w4 _ _).call hb5
    have B5 := (B4.alloc B4.size _).trans (hb5.mono (Nat.le_trans B4.size (by simp)))
    replace bA := (bA.alloc _).call hb5
    have Q5 := Lib.hid ((Q4.out.below ((Below.refl _ _).alloc (Nat.le_refl _) _)).below hb5)
    clear c hb5 Q4 lA B4
    rw [HR.out]
    have hne : (R != R) = false := by simp
    have c := bA.cell
    have f := bC.cell
    have q5d : D.Ats w5.drew anyB X.ds _ := Q5.out.drew
    go_upto_region 10 with fail
    go_cut [26] (fun s wx => s = .bool false ∧ Below w.heap.size w wx)
    case first =>
      go_region_with (first
        | (go_at_call 9; ((with_reducible refine (toFace_cFaceOk X _ _ (HX.out.below B5.drew) (by omega)).mono ?_); rintro e w8 ⟨cs8, rfl, hcs8, hb8⟩; have q8 : D.Ats w8 anyB X.ds cs8 := hcs8.weaken (fun _ _ => trivial); have f8 := (Box.call (w := w5.drew) bC hb8).cell))
        | (go_at_call 11; ((with_reducible refine (eqFace_cFaceOk X X _ _ _ (q5d.below hb8) q8).mono ?_); rintro e w9 ⟨rfl, hb9⟩)))
      all_goals
        have fin := Lib.hid (show Below w.heap.size w w9 from (B5.drew.trans (hb8.mono B5.size)).trans (hb9.mono (B5.drew.trans (hb8.mono B5.size)).size))
        have hrf := Fa.same_refl X
        go_wp2_with fail
        go_meet
        exact ⟨by rw [hrf]; rfl, fin.out⟩
    case rest =>
      obtain ⟨rfl, B9⟩ := hcut
      go_wp2
      go_ret
      exact ⟨rfl, B9⟩
  · rw [left_no hle]
    go_wp2
    go_ret
    exact ⟨rfl, B1⟩
end Go.Proofs.YtklhkdihokgpeaaGreatDoor
