/- ValueText: the law. -/
import Derived.Test.YtcpadaelgdmipaaGreatDoorPkO
import Derived.Test.YtcpadaelgdmipaaGreatDoorPkG
import Derived.Test.YtcpadaelgdmipaaGreatDoorPkVj
import Derived.Deep.DeepCutAuto
namespace Go.Proofs.YtcpadaelgdmipaaGreatDoor
open Go.RowKit Go.ChangeShapes Go.WideShapes

theorem toValue_c (x : Va) (cs : List Value) (w : World) (h : D.Ats w anyB x.ds cs) (ht : D.totals x.ds ≤ 1048576) : Calls Tryz.prog 8 #[.agg cs.toArray] w (RetDs x.ds w) := toValue_w x cs w h ht
theorem eqValue_c (x y : Va) (cs cs' : List Value) (w : World) (h : D.Ats w anyB x.ds cs) (h' : D.Ats w anyB y.ds cs') :
    Calls Tryz.prog 12 #[.agg cs.toArray, .agg cs'.toArray] w fun e w' => e = .returned (.bool (Va.same x y)) ∧ Below w.heap.size w w' := eqValue_w x y cs cs' w h h'
theorem toType_c (x : Ty) (cs : List Value) (w : World) (h : D.Ats w anyB x.ds cs) (ht : D.totals x.ds ≤ 1048576) : Calls Tryz.prog 9 #[.agg cs.toArray] w (RetDs x.ds w) := toType_w x cs w h ht
theorem eqType_c (x y : Ty) (cs cs' : List Value) (w : World) (h : D.Ats w anyB x.ds cs) (h' : D.Ats w anyB y.ds cs') :
    Calls Tryz.prog 13 #[.agg cs.toArray, .agg cs'.toArray] w fun e w' => e = .returned (.bool (Ty.same x y)) ∧ Below w.heap.size w w' := eqType_w x y cs cs' w h h'

set_option maxHeartbeats 1000000 in
set_option maxRecDepth 20000 in
theorem law_FnExactValueText {H : Type} {enc : TypeId × Value → H} {b0 b1 : Nat} {w : World} (v : Value) (d : DataW H) (p : List MemPlace) (hv : Value.okWide Tryz.prog w .any b0 24 v)
    (h : DataW.Trod enc Tryz.prog w 0 (fun _ => true) true 24 v d p) (v' : Value) (d' : DataW H) (p' : List MemPlace) (hv' : Value.okWide Tryz.prog w .any b1 28 v')
    (h' : DataW.Trod enc Tryz.prog w 0 (fun _ => true) true 28 v' d' p') (ht : VtW w) :
    Calls Tryz.prog 4 #[v, v'] w fun e w' => e = .returned (.bool true) ∧ Below w.heap.size w w' := by
  obtain ⟨cs, X, rfl, hx⟩ := Value_arg hv h
  obtain ⟨cs', X', rfl, hx'⟩ := Type_arg hv' h'
  clear hv h hv' h'
  obtain ⟨k0, k1, k2, k3A, k3m, k3c, rfl⟩ := Va.form hx
  obtain ⟨n0, n1, n2A, n2m, n2c, n3A, n3m, n3c, rfl⟩ := Ty.form hx'
  have HT := Lib.hid ht
  clear ht
  have HX := Lib.hid hx
  have HX' := Lib.hid hx'
  clear hx hx'
  go_enter Tryz.func4, Tryz.ntmps4
  go_wp2_with fail
  refine (szValue_w X _ _ _ (HX.out.below (by repeat (first | exact Below.refl _ _ | refine Below.alloc ?_ (by first | omega | (simp <;> omega)) _))) (by omega) (by omega)).mono ?_
  rintro e w1 ⟨rfl, hb1⟩
  obtain ⟨B1, bA, bB⟩ := box2 (cA := [_, _, _, _]) (cB := [_, _, _, _]) hb1
  clear hb1
  by_cases hle : (D.totals X.ds : Int) ≤ 1048576
  · rw [left_yes hle]
    have hg : ¬ (1048576 - (D.totals X.ds : Int) < 0) := by omega
    have c := bA.cell
    have d := bB.cell
    go_wp2_with fail
    refine (szType_w X' _ _ _ (HX'.out.below B1) (by omega) (by omega)).mono ?_
    rintro e w2 ⟨rfl, hb2⟩
    clear c d
    have B2 := B1.trans (hb2.mono B1.size)
    replace bA := bA.call hb2
    replace bB := bB.call hb2
    clear B1 hb2
    by_cases hle' : (D.totals X'.ds : Int) ≤ 1048576 - D.totals X.ds
    · rw [left_yes hle']
      have hp1 : D.totals X.ds ≤ 1048576 := by omega
      have hp2 : D.totals X'.ds ≤ 1048576 := by omega
      have hg' : ¬ (1048576 - (D.totals X.ds : Int) - D.totals X'.ds < 0) := by omega
      have c := bA.cell
      have d := bB.cell
      go_upto_region 8 with fail
      go_cut [6] (fun s wx => s = .string (valT X X') ∧ Below w.heap.size w wx ∧ Box wx w.heap.size 24 [.int .i64 k0, .int .i64 k1, .string k2, .slice k3A k3m k3c] ∧ Box wx (w.heap.size + 1) 28 [.int .i64 n0, .string n1, .slice n2A n2m n2c, .slice n3A n3m n3c])
      case first =>
        go_region_with (first
          | (go_at_call 8; ((with_reducible refine (toValue_c X _ _ (HX.out.below (by first | exact B3'.drew | exact B3' | exact B2.drew)) (by omega)).mono ?_); rintro e w3 ⟨cs3, rfl, hcs3, hb3⟩; have q3 : D.Ats w3 anyB X.ds cs3 := hcs3.weaken (fun _ _ => trivial); have B3 := Below.trans (by first | exact B3'.drew | exact B3' | exact B2.drew) (hb3.mono (by first | exact B3'.size | exact B2.size)); have bA3 : Box w3 w.heap.size 24 [.int .i64 k0, .int .i64 k1, .string k2, .slice k3A k3m k3c] := (by first | exact bA3'.call hb3 | exact Box.call (w := w2.drew) bA hb3); have bB3 : Box w3 (w.heap.size + 1) 28 [.int .i64 n0, .string n1, .slice n2A n2m n2c, .slice n3A n3m n3c] := (by first | exact bB3'.call hb3 | exact Box.call (w := w2.drew) bB hb3); have c3 := bA3.cell; have d3 := bB3.cell))
          | (go_at_call 9; ((with_reducible refine (toType_c X' _ _ (HX'.out.below (by first | exact B3.drew | exact B3 | exact B2.drew)) (by omega)).mono ?_); rintro e w3' ⟨cs3', rfl, hcs3', hb3'⟩; have q3' : D.Ats w3' anyB X'.ds cs3' := hcs3'.weaken (fun _ _ => trivial); have B3' := Below.trans (by first | exact B3.drew | exact B3 | exact B2.drew) (hb3'.mono (by first | exact B3.size | exact B2.size)); have bA3' : Box w3' w.heap.size 24 [.int .i64 k0, .int .i64 k1, .string k2, .slice k3A k3m k3c] := (by first | exact bA3.call hb3' | exact Box.call (w := w2.drew) bA hb3'); have bB3' : Box w3' (w.heap.size + 1) 28 [.int .i64 n0, .string n1, .slice n2A n2m n2c, .slice n3A n3m n3c] := (by first | exact bB3.call hb3' | exact Box.call (w := w2.drew) bB hb3'); have c3' := bA3'.cell; have d3' := bB3'.cell))
          | (go_at_call 19; ((with_reducible refine (valT_s X X' _ _ _ hp1 hp2 (by first | exact q3.below hb3' | exact q3) (by first | exact q3'.below hb3 | exact q3')).mono ?_); rintro e w4 ⟨rfl, hb4⟩; have B4 : Below w.heap.size w w4 := (by first | exact B3'.trans (hb4.mono B3'.size) | exact B3.trans (hb4.mono B3.size)); have bA4 := (by first | exact bA3'.call hb4 | exact bA3.call hb4); have bB4 := (by first | exact bB3'.call hb4 | exact bB3.call hb4))))
        all_goals
          have fin := Lib.hid (And.intro B4 (And.intro (show Box w4 w.heap.size 24 [.int .i64 k0, .int .i64 k1, .string k2, .slice k3A k3m k3c] by first | exact bA3'.call hb4 | exact bA3.call hb4) (show Box w4 (w.heap.size + 1) 28 [.int .i64 n0, .string n1, .slice n2A n2m n2c, .slice n3A n3m n3c] by first | exact bB3'.call hb4 | exact bB3.call hb4)))
          go_wp2_with fail
          go_meet
          exact ⟨rfl, fin.out⟩
      case rest =>
        obtain ⟨rfl, B5, bA, bB⟩ := hcut
        clear c d
        have c := bA.cell
        have d := bB.cell
        go_wp2_with fail
        refine (toValue_c X _ _ (HX.out.below B5) (by omega)).mono ?_
        rintro e w5 ⟨cs5, rfl, hcs5, hb5⟩
        obtain ⟨zp0, zp1, zp2, zp3A, zp3m, zp3c, rfl⟩ := Va.form hcs5
        have B6 := B5.trans (hb5.mono B5.size)
        replace bA := bA.call hb5
        replace bB := bB.call hb5
        have q5 : D.Ats w5 anyB X.ds _ := hcs5.weaken (fun _ _ => trivial)
        clear c d B5 hb5 hcs5
        have c := bA.cell
        have d := bB.cell
        have lA := bA.lt
        have lB := bB.lt
        go_wp2_with fail
        refine (toType_c X' _ _ (HX'.out.below (B6.alloc B6.size _)) (by omega)).mono ?_
        rintro e w6 ⟨cs6, rfl, hcs6, hb6⟩
        obtain ⟨zq0, zq1, zq2A, zq2m, zq2c, zq3A, zq3m, zq3c, rfl⟩ := Ty.form hcs6
        have B7 := (B6.alloc B6.size _).trans (hb6.mono (Nat.le_trans B6.size (by simp)))
        have bC : Box w6 w5.heap.size 34 [.int .i64 zp0, .int .i64 zp1, .string zp2, .slice zp3A zp3m zp3c] := (Box.new w5 _ _).call hb6
        replace bA := (bA.alloc _).call hb6
        replace bB := (bB.alloc _).call hb6
        have q6 : D.Ats w6 anyB X'.ds [.int .i64 zq0, .string zq1, .slice zq2A zq2m zq2c, .slice zq3A zq3m zq3c] := hcs6.weaken (fun _ _ => trivial)
        replace q5 := (q5.below ((Below.refl _ _).alloc (Nat.le_refl _) _)).below hb6
        clear c d B6 hb6 hcs6 lA lB
        have c := bA.cell
        have d := bB.cell
        have f := bC.cell
        have lA := bA.lt
        have lB := bB.lt
        have lC := bC.lt
        go_wp2_with fail
        refine (valT_i X X' _ _ _ (vtw_below HT.out (B7.alloc B7.size _)) hp1 hp2 (q5.below ((Below.refl _ _).alloc (Nat.le_refl _) _)) (q6.below ((Below.refl _ _).alloc (Nat.le_refl _) _))).mono ?_
        rintro e w7 ⟨rfl, hb7⟩
        have bD : Box w7 w6.heap.size 40 [.int .i64 zq0, .string zq1, .slice zq2A zq2m zq2c, .slice zq3A zq3m zq3c] := (Box.new w6 _ _).call hb7
        have B8 := (B7.alloc B7.size _).trans (hb7.mono (Nat.le_trans B7.size (by simp)))
        replace bA := (bA.alloc _).call hb7
        replace bB := (bB.alloc _).call hb7
        replace bC := (bC.alloc _).call hb7
        replace q5 := (q5.below ((Below.refl _ _).alloc (Nat.le_refl _) _)).below hb7
        replace q6 := (q6.below ((Below.refl _ _).alloc (Nat.le_refl _) _)).below hb7
        clear c d f B7 hb7 lA lB lC
        have hne : ((valT X X').toList != (valT X X').toList) = false := by simp
        have c := bA.cell
        have d := bB.cell
        have f := bC.cell
        have g := bD.cell
        have q5d : D.Ats w7.drew anyB X.ds [.int .i64 zp0, .int .i64 zp1, .string zp2, .slice zp3A zp3m zp3c] := q5.drew
        go_upto_region 14 with fail
        go_cut [39] (fun s wx => s = .bool false ∧ Below w.heap.size w wx ∧ Below w7.heap.size w7 wx)
        case first =>
          go_region_with (first
            | (go_at_call 8; ((with_reducible refine (toValue_c X _ _ (HX.out.below B8.drew) (by omega)).mono ?_); rintro e w8 ⟨cs8, rfl, hcs8, hb8⟩; have q8 : D.Ats w8 anyB X.ds cs8 := hcs8.weaken (fun _ _ => trivial); have f8 := (Box.call (w := w7.drew) bC hb8).cell))
            | (go_at_call 12; ((with_reducible refine (eqValue_c X X _ _ _ (q5d.below hb8) q8).mono ?_); rintro e w9 ⟨rfl, hb9⟩)))
          all_goals
            have fin := Lib.hid (And.intro (show Below w.heap.size w w9 from (B8.drew.trans (hb8.mono B8.size)).trans (hb9.mono (B8.drew.trans (hb8.mono B8.size)).size)) (show Below w7.heap.size w7 w9 from ((Below.refl _ w7).drew.trans hb8).trans (hb9.mono hb8.size)))
            have hrf := Va.same_refl X
            go_wp2_with fail
            go_meet
            exact ⟨by rw [hrf]; rfl, fin.out⟩
        case rest =>
          obtain ⟨rfl, B9, hb9⟩ := hcut
          clear c d f g q5d
          replace bB := bB.call hb9
          replace bD := bD.call hb9
          have q6d := (q6.below hb9).drew
          have d := bB.cell
          have g := bD.cell
          go_upto_region 16 with fail
          go_cut [44] (fun s wx => s = .bool false ∧ Below w.heap.size w wx)
          case first =>
            go_region_with (first
              | (go_at_call 9; ((with_reducible refine (toType_c X' _ _ (HX'.out.below B9.drew) (by omega)).mono ?_); rintro e w8 ⟨cs8, rfl, hcs8, hb8⟩; have q8 : D.Ats w8 anyB X'.ds cs8 := hcs8.weaken (fun _ _ => trivial); have g8 := (Box.call (w := wc.drew) bD hb8).cell))
              | (go_at_call 13; ((with_reducible refine (eqType_c X' X' _ _ _ (q6d.below hb8) q8).mono ?_); rintro e w9 ⟨rfl, hb10⟩)))
            all_goals
              have fin := Lib.hid (show Below w.heap.size w w9 from (B9.drew.trans (hb8.mono B9.size)).trans (hb10.mono (B9.drew.trans (hb8.mono B9.size)).size))
              have hrf := Ty.same_refl X'
              go_wp2_with fail
              go_meet
              exact ⟨by rw [hrf]; rfl, fin.out⟩
          case rest =>
            obtain ⟨rfl, B10⟩ := hcut
            go_wp2
            go_ret
            exact ⟨rfl, B10⟩
    · rw [left_no hle']
      go_wp2
      go_ret
      exact ⟨rfl, B2⟩
  · rw [left_no hle]
    go_wp2
    go_ret
    exact ⟨rfl, B1⟩
end Go.Proofs.YtcpadaelgdmipaaGreatDoor
