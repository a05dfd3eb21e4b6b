/- WhyNot: the law. -/
import Derived.Test.YtoioljkhinodaaaGreatDoorOType
import Derived.Test.YtoioljkhinodaaaGreatDoorGType
import Derived.Test.YtoioljkhinodaaaGreatDoorWaM
import Derived.Deep.DeepCutAuto
import Derived.Deep.RegionHeld3
namespace Go.Proofs.YtoioljkhinodaaaGreatDoor
open Go.RowKit Go.ChangeShapes Go.WideShapes

theorem toType_cW (x : Ty) (cs : List Value) (w : World) (h : D.Ats w anyB x.ds cs) (ht : D.totals x.ds ≤ 1048576) : Calls Tryz.prog 9 #[.agg cs.toArray] w (RetDs x.ds w) := toType_w x cs w h ht
theorem eqReason_v (a : Int) (s : ByteArray) (w : World) : Calls Tryz.prog 14 #[.agg #[.int .i64 a, .string s], .agg #[.int .i64 a, .string s]] w fun e w' => e = .returned (.bool true) ∧ Below w.heap.size w w' := by
  have g1 : (a != a) = false := by simp
  have g2 : (s.toList != s.toList) = false := by simp
  go_enter Tryz.func14, Tryz.ntmps14
  go_wp2
  exact bodyPost_ret (v := .bool true) (by simp [results, Tryz.results14, go_sem]) rfl ⟨rfl, by repeat (first | exact Below.refl _ _ | refine Below.alloc ?_ (by first | omega | (simp <;> omega)) _)⟩
theorem eqType_cW (x y : Ty) (cs cs' : List Value) (w : World) (h : D.Ats w anyB x.ds cs) (h' : D.Ats w anyB y.ds cs') :
    Calls Tryz.prog 11 #[.agg cs.toArray, .agg cs'.toArray] w fun e w' => e = .returned (.bool (Ty.same x y)) ∧ Below w.heap.size w w' := eqType_w x y cs cs' w h h'

set_option maxHeartbeats 1000000 in
set_option maxRecDepth 20000 in
theorem law_FnExactWhyNot {H : Type} {enc : TypeId × Value → H} {b0 b1 : Nat} {w : World} (v : Value) (d : DataW H) (p : List MemPlace) (hv : Value.okWide Tryz.prog w .any b0 25 v)
    (h : DataW.Trod enc Tryz.prog w 0 (fun _ => true) true 25 v d p) (v' : Value) (d' : DataW H) (p' : List MemPlace) (hv' : Value.okWide Tryz.prog w .any b1 25 v')
    (h' : DataW.Trod enc Tryz.prog w 0 (fun _ => true) true 25 v' d' p') (ht : Tab10 w) :
    Calls Tryz.prog 4 #[v, v'] w fun e w' => e = .returned (.bool true) ∧ Below w.heap.size w w' := by
  obtain ⟨cs, X, rfl, hx⟩ := Type_arg hv h
  obtain ⟨cs', X', rfl, hx'⟩ := Type_arg hv' h'
  clear hv h hv' h'
  obtain ⟨k0, k1, k2A, k2m, k2c, k3A, k3m, k3c, rfl⟩ := Ty.form hx
  obtain ⟨n0, n1, n2A, n2m, n2c, n3A, n3m, n3c, rfl⟩ := Ty.form hx'
  have HT := Lib.hid ht
  clear ht
  have HX := Lib.hid hx
  have HX' := Lib.hid hx'
  clear hx hx'
  go_enter Tryz.func4, Tryz.ntmps4
  go_wp2_with fail
  refine (szType_w X _ _ _ (HX.out.below (by repeat (first | exact Below.refl _ _ | refine Below.alloc ?_ (by first | omega | (simp <;> omega)) _))) (by omega) (by omega)).mono ?_
  rintro e w1 ⟨rfl, hb1⟩
  obtain ⟨B1, bA, bB⟩ := box2 (cA := [_, _, _, _]) (cB := [_, _, _, _]) hb1
  clear hb1
  by_cases hle : (D.totals X.ds : Int) ≤ 1048576
  · rw [left_yes hle]
    have hg : ¬ (1048576 - (D.totals X.ds : Int) < 0) := by omega
    have c := bA.cell
    have d := bB.cell
    go_wp2_with fail
    refine (szType_w X' _ _ _ (HX'.out.below B1) (by omega) (by omega)).mono ?_
    rintro e w2 ⟨rfl, hb2⟩
    clear c d
    have B2 := B1.trans (hb2.mono B1.size)
    replace bA := bA.call hb2
    replace bB := bB.call hb2
    clear B1 hb2
    by_cases hle' : (D.totals X'.ds : Int) ≤ 1048576 - D.totals X.ds
    · rw [left_yes hle']
      have hp1 : D.totals X.ds ≤ 1048576 := by omega
      have hp2 : D.totals X'.ds ≤ 1048576 := by omega
      have hg' : ¬ (1048576 - (D.totals X.ds : Int) - D.totals X'.ds < 0) := by omega
      have c := bA.cell
      have d := bB.cell
      have zA := bA.lt
      have zB := bB.lt
      have K0 : Below w2.heap.size w2 w2.drew := (Below.refl _ w2).drew
      have K1 : Below w2.heap.size w2 (w2.alloc (.cells #[.int .i64 0, .string ⟨#[]⟩] 34)).drew := ((Below.refl _ w2).alloc (Nat.le_refl _) _).drew
      have KEEP : ∀ W, Below w2.heap.size w2 W → W.cell? ⟨w.heap.size, 0, none⟩ = some (.int .i64 k0) ∧ W.cell? ⟨w.heap.size, 1, none⟩ = some (.string k1) ∧ W.cell? ⟨w.heap.size, 2, none⟩ = some (.slice k2A k2m k2c) ∧ W.cell? ⟨w.heap.size, 3, none⟩ = some (.slice k3A k3m k3c) ∧ W.cell? ⟨w.heap.size + 1, 0, none⟩ = some (.int .i64 n0) ∧ W.cell? ⟨w.heap.size + 1, 1, none⟩ = some (.string n1) ∧ W.cell? ⟨w.heap.size + 1, 2, none⟩ = some (.slice n2A n2m n2c) ∧ W.cell? ⟨w.heap.size + 1, 3, none⟩ = some (.slice n3A n3m n3c) := fun W G => ⟨(G.cell (p := ⟨w.heap.size, 0, none⟩) zA).trans (bA.cell 0), (G.cell (p := ⟨w.heap.size, 1, none⟩) zA).trans (bA.cell 1), (G.cell (p := ⟨w.heap.size, 2, none⟩) zA).trans (bA.cell 2), (G.cell (p := ⟨w.heap.size, 3, none⟩) zA).trans (bA.cell 3), (G.cell (p := ⟨w.heap.size + 1, 0, none⟩) zB).trans (bB.cell 0), (G.cell (p := ⟨w.heap.size + 1, 1, none⟩) zB).trans (bB.cell 1), (G.cell (p := ⟨w.heap.size + 1, 2, none⟩) zB).trans (bB.cell 2), (G.cell (p := ⟨w.heap.size + 1, 3, none⟩) zB).trans (bB.cell 3)⟩
      obtain ⟨R, hR⟩ : ∃ R, whyV X X' = R := ⟨_, rfl⟩
      have HSN := Lib.hid (fun W cs cs' h h' => whyNot_s X X' cs cs' W hp1 hp2 h h')
      have HIN := Lib.hid (fun W cs cs' ht h h' => whyNot_i X X' cs cs' W ht hp1 hp2 h h')
      rw [hR] at HSN HIN
      simp only [retR_eq] at HSN HIN
      clear hR
      have HTX := Lib.hid (fun W (G : Below w2.heap.size w2 W) => toType_cW X _ W ((HX.out.below B2).below G) hp1)
      have HTX' := Lib.hid (fun W (G : Below w2.heap.size w2 W) => toType_cW X' _ W ((HX'.out.below B2).below G) hp2)
      go_upto_region 8 with fail
      clear c d
      go_cut [6, 7] (fun p o wx => ∃ g, p = .pointer (some ⟨g, 0, none⟩) ∧ o = .bool (rsO R) ∧ Below w2.heap.size w2 wx ∧ w2.heap.size ≤ g ∧ g < wx.heap.size ∧ wx.cell? ⟨g, 0, none⟩ = some (.int .i64 (rsK R)) ∧ wx.cell? ⟨g, 1, none⟩ = some (.string (rsT R)))
      case first =>
        go_region_held3 (fun w' => w'.cell? ⟨w.heap.size, 0, none⟩ = some (.int .i64 k0) ∧ w'.cell? ⟨w.heap.size, 1, none⟩ = some (.string k1) ∧ w'.cell? ⟨w.heap.size, 2, none⟩ = some (.slice k2A k2m k2c) ∧ w'.cell? ⟨w.heap.size, 3, none⟩ = some (.slice k3A k3m k3c) ∧ w'.cell? ⟨w.heap.size + 1, 0, none⟩ = some (.int .i64 n0) ∧ w'.cell? ⟨w.heap.size + 1, 1, none⟩ = some (.string n1) ∧ w'.cell? ⟨w.heap.size + 1, 2, none⟩ = some (.slice n2A n2m n2c) ∧ w'.cell? ⟨w.heap.size + 1, 3, none⟩ = some (.slice n3A n3m n3c))
          (first | exact KEEP _ K0 | exact KEEP _ K1 | exact KEEP _ G3 | exact KEEP _ (G3.alloc G3.size _) | exact KEEP _ G3' | exact KEEP _ (G3'.alloc G3'.size _) | exact KEEP _ G4 | exact KEEP _ (G4.alloc G4.size _) | exact KEEP _ ((G4.setCell (by first | exact Nat.le_refl _ | exact K0.size | exact G3.size | exact G3'.size | exact G4.size | (simp; done)) _).setCell (by first | exact Nat.le_refl _ | exact K0.size | exact G3.size | exact G3'.size | exact G4.size | (simp; done)) _) | exact KEEP _ (((G4.alloc G4.size _).setCell (by first | exact Nat.le_refl _ | exact K0.size | exact G3.size | exact G3'.size | exact G4.size | (simp; done)) _).setCell (by first | exact Nat.le_refl _ | exact K0.size | exact G3.size | exact G3'.size | exact G4.size | (simp; done)) _) | (trace_state; fail))
          (first
            | (go_at_call 9; (first | (with_reducible refine (HTX.out _ K0).mono ?_) | (with_reducible refine (HTX.out _ K1).mono ?_)); rintro e w3 ⟨cs3, rfl, hcs3, hb3⟩; obtain ⟨y0, y1, y2A, y2m, y2c, y3A, y3m, y3c, rfl⟩ := Ty.form hcs3; have q3 := hcs3.weaken (S' := anyB) (fun _ _ => trivial); have G3 : Below w2.heap.size w2 w3 := (by first | exact K0.trans (hb3.mono K0.size) | exact K1.trans (hb3.mono K1.size)); (first | (have bG : Box w3 w2.heap.size 34 [.int .i64 0, .string ⟨#[]⟩] := Box.call (w := (w2.alloc (.cells #[.int .i64 0, .string ⟨#[]⟩] 34)).drew) (Box.new w2 34 [.int .i64 0, .string ⟨#[]⟩]) hb3) | skip))
            | (go_at_call 9; (first | (with_reducible refine (HTX'.out _ G3).mono ?_) | (with_reducible refine (HTX'.out (w3.alloc (.cells #[.int .i64 0, .string ⟨#[]⟩] 34)) (G3.alloc G3.size _)).mono ?_)); rintro e w3' ⟨cs3', rfl, hcs3', hb3'⟩; obtain ⟨t0, t1, t2A, t2m, t2c, t3A, t3m, t3c, rfl⟩ := Ty.form hcs3'; have q3' := hcs3'.weaken (S' := anyB) (fun _ _ => trivial); have G3' : Below w2.heap.size w2 w3' := (by first | exact G3.trans (hb3'.mono G3.size) | exact (G3.alloc G3.size _).trans (hb3'.mono (by have := G3.size; first | exact this | (simp; omega) | exact Nat.le_trans this (by simp)))); have r3 : D.Ats w3' anyB X.ds _ := (by first | exact q3.below hb3' | exact (q3.below ((Below.refl _ w3).alloc (Nat.le_refl _) (.cells #[.int .i64 0, .string ⟨#[]⟩] 34))).below hb3'); (first | (have bG' := bG.call hb3') | (have bG' : Box w3' w3.heap.size 34 [.int .i64 0, .string ⟨#[]⟩] := (Box.new w3 34 [.int .i64 0, .string ⟨#[]⟩]).call hb3') | skip))
            | (go_at_call 12; (first | (with_reducible refine (HSN.out _ _ _ r3 q3').mono ?_) | (with_reducible refine (HSN.out (w3'.alloc (.cells #[.int .i64 0, .string ⟨#[]⟩] 34)) _ _ (r3.below ((Below.refl _ w3').alloc (Nat.le_refl _) (.cells #[.int .i64 0, .string ⟨#[]⟩] 34))) (q3'.below ((Below.refl _ w3').alloc (Nat.le_refl _) (.cells #[.int .i64 0, .string ⟨#[]⟩] 34)))).mono ?_)); rintro e w4 ⟨rfl, hb4⟩; have G4 : Below w2.heap.size w2 w4 := (by first | exact G3'.trans (hb4.mono G3'.size) | exact (G3'.alloc G3'.size _).trans (hb4.mono (by have := G3'.size; first | exact this | (simp; omega) | exact Nat.le_trans this (by simp)))); (first | (have bZ := bG'.call hb4; have j5 := bZ.cell; have l5 := bZ.frozen; have z5 := bZ.lt) | (have bZ : Box w4 w3'.heap.size 34 [.int .i64 0, .string ⟨#[]⟩] := (Box.new w3' 34 [.int .i64 0, .string ⟨#[]⟩]).call hb4; have j5 := bZ.cell; have l5 := bZ.frozen; have z5 := bZ.lt) | skip)))
        all_goals
          go_wp2_with fail
          go_meet
          first | exact ⟨_, rfl, rfl, recEnd G4 bZ (by first | exact Nat.le_refl _ | exact K0.size | exact G3.size | exact G3'.size | exact G4.size | (simp; done))⟩ | exact ⟨_, rfl, rfl, recEnd2 G4⟩
      case rest =>
        obtain ⟨gr, rfl, rfl, B1', hgr, hgrl, m0, m1⟩ := hcut
        obtain ⟨W5, hW5⟩ : ∃ W5, W5 = wc := ⟨_, rfl⟩
        rw [← hW5] at B1' hgrl m0 m1 ⊢
        clear hW5 KEEP K0 K1 HTX HTX'
        have B5 := B2.trans (B1'.mono B2.size)
        replace bA := bA.call B1'
        replace bB := bB.call B1'
        have c := bA.cell
        have d := bB.cell
        clear c d
        have c := bA.cell
        have d := bB.cell
        go_wp2_with fail
        refine (toType_cW X _ _ (HX.out.below B5) (by omega)).mono ?_
        rintro e w5 ⟨cs5, rfl, hcs5, hb5⟩
        obtain ⟨zp0, zp1, zp2A, zp2m, zp2c, zp3A, zp3m, zp3c, rfl⟩ := Ty.form hcs5
        have B6 := B5.trans (hb5.mono B5.size)
        replace bA := bA.call hb5
        replace bB := bB.call hb5
        replace m0 := (hb5.cell (p := ⟨gr, 0, none⟩) hgrl).trans m0
        replace m1 := (hb5.cell (p := ⟨gr, 1, none⟩) hgrl).trans m1
        replace hgrl := Nat.lt_of_lt_of_le hgrl hb5.size
        have q5 : D.Ats w5 anyB X.ds _ := hcs5.weaken (fun _ _ => trivial)
        clear c d B5 hb5 hcs5
        have c := bA.cell
        have d := bB.cell
        have lA := bA.lt
        have lB := bB.lt
        go_wp2_with fail
        refine (toType_cW X' _ _ (HX'.out.below (B6.alloc B6.size _)) (by omega)).mono ?_
        rintro e w6 ⟨cs6, rfl, hcs6, hb6⟩
        obtain ⟨zq0, zq1, zq2A, zq2m, zq2c, zq3A, zq3m, zq3c, rfl⟩ := Ty.form hcs6
        have B7 := (B6.alloc B6.size _).trans (hb6.mono (Nat.le_trans B6.size (by simp)))
        have bC : Box w6 w5.heap.size 30 [.int .i64 zp0, .string zp1, .slice zp2A zp2m zp2c, .slice zp3A zp3m zp3c] := (Box.new w5 _ _).call hb6
        replace bA := (bA.alloc _).call hb6
        replace bB := (bB.alloc _).call hb6
        have cut6 : ∀ q, w6.cell? ⟨gr, q, none⟩ = w5.cell? ⟨gr, q, none⟩ := fun q => (hb6.cell (p := ⟨gr, q, none⟩) (Nat.lt_of_lt_of_le hgrl (by simp))).trans (((Below.refl _ w5).alloc (Nat.le_refl _) _).cell (p := ⟨gr, q, none⟩) hgrl)
        replace m0 := (cut6 0).trans m0
        replace m1 := (cut6 1).trans m1
        replace hgrl : gr < w6.heap.size := Nat.lt_of_lt_of_le hgrl (Nat.le_trans (by simp) hb6.size)
        have q6 : D.Ats w6 anyB X'.ds [.int .i64 zq0, .string zq1, .slice zq2A zq2m zq2c, .slice zq3A zq3m zq3c] := hcs6.weaken (fun _ _ => trivial)
        replace q5 := (q5.below ((Below.refl _ _).alloc (Nat.le_refl _) _)).below hb6
        clear c d B6 hb6 hcs6 lA lB
        have c := bA.cell
        have d := bB.cell
        have f := bC.cell
        have lA := bA.lt
        have lB := bB.lt
        have lC := bC.lt
        go_wp2_with fail
        refine (HIN.out _ _ _ (HT.out.below (B7.alloc B7.size _)) (q5.below ((Below.refl _ _).alloc (Nat.le_refl _) _)) (q6.below ((Below.refl _ _).alloc (Nat.le_refl _) _))).mono ?_
        rintro e w7 ⟨rfl, hb7⟩
        have cut7 : ∀ q, w7.cell? ⟨gr, q, none⟩ = w6.cell? ⟨gr, q, none⟩ := fun q => (hb7.cell (p := ⟨gr, q, none⟩) (Nat.lt_of_lt_of_le hgrl (by simp))).trans (((Below.refl _ w6).alloc (Nat.le_refl _) _).cell (p := ⟨gr, q, none⟩) hgrl)
        replace m0 := (cut7 0).trans m0
        replace m1 := (cut7 1).trans m1
        replace hgrl : gr < w7.heap.size := Nat.lt_of_lt_of_le hgrl (Nat.le_trans (by simp) hb7.size)
        have bD : Box w7 w6.heap.size 30 [.int .i64 zq0, .string zq1, .slice zq2A zq2m zq2c, .slice zq3A zq3m zq3c] := (Box.new w6 _ _).call hb7
        have B8 := (B7.alloc B7.size _).trans (hb7.mono (Nat.le_trans B7.size (by simp)))
        replace bA := (bA.alloc _).call hb7
        replace bB := (bB.alloc _).call hb7
        replace bC := (bC.alloc _).call hb7
        replace q5 := (q5.below ((Below.refl _ _).alloc (Nat.le_refl _) _)).below hb7
        replace q6 := (q6.below ((Below.refl _ _).alloc (Nat.le_refl _) _)).below hb7
        clear c d f B7 hb7 lA lB lC
        go_upto_region 12 with fail
        obtain ⟨w7a, hw7a⟩ : ∃ w7a, w7a = w7.alloc (.cells #[.int .i64 (rsK R), .string (rsT R)] 34) := ⟨_, rfl⟩
        rw [← hw7a]
        have bE : Box w7a w7.heap.size 34 [.int .i64 (rsK R), .string (rsT R)] := by rw [hw7a]; exact Box.new w7 _ _
        have b7a : Below w7.heap.size w7 w7a := by rw [hw7a]; exact (Below.refl _ _).alloc (Nat.le_refl _) _
        replace m0 := (b7a.cell (p := ⟨gr, 0, none⟩) hgrl).trans m0
        replace m1 := (b7a.cell (p := ⟨gr, 1, none⟩) hgrl).trans m1
        replace bA := bA.call b7a
        replace bB := bB.call b7a
        replace bC := bC.call b7a
        replace bD := bD.call b7a
        replace q5 := q5.below b7a
        replace q6 := q6.below b7a
        replace B8 := B8.trans (b7a.mono B8.size)
        have e1 := bE.cell
        clear hw7a b7a
        obtain ⟨g7, hg7⟩ : ∃ g7, w7.heap.size = g7 := ⟨_, rfl⟩
        rw [hg7] at bE e1 ⊢
        clear hg7
        go_wp2_with fail
        refine (eqReason_v (rsK R) (rsT R) _).mono ?_
        rintro e w7b ⟨rfl, hb7b⟩
        replace bA := bA.call hb7b
        replace bB := bB.call hb7b
        replace bC := bC.call hb7b
        replace bD := bD.call hb7b
        replace q5 := q5.below hb7b
        replace q6 := q6.below hb7b
        replace B8 := B8.trans (hb7b.mono B8.size)
        have hne : ((rsO R) != (rsO R)) = false := by simp
        clear e1 m0 m1 hb7b bE
        have c := bA.cell
        have d := bB.cell
        have f := bC.cell
        have g := bD.cell
        have q5d : D.Ats w7b.drew anyB X.ds [.int .i64 zp0, .string zp1, .slice zp2A zp2m zp2c, .slice zp3A zp3m zp3c] := q5.drew
        go_upto_region 14 with fail
        go_cut [53] (fun s wx => s = .bool false ∧ Below w.heap.size w wx ∧ Below w7b.heap.size w7b wx)
        case first =>
          go_region_with (first
            | (go_at_call 9; ((with_reducible refine (toType_cW X _ _ (HX.out.below B8.drew) (by omega)).mono ?_); rintro e w8 ⟨cs8, rfl, hcs8, hb8⟩; have q8 : D.Ats w8 anyB X.ds cs8 := hcs8.weaken (fun _ _ => trivial); have f8 := (Box.call (w := w7b.drew) bC hb8).cell))
            | (go_at_call 11; ((with_reducible refine (eqType_cW X X _ _ _ (q5d.below hb8) q8).mono ?_); rintro e w9 ⟨rfl, hb9⟩)))
          all_goals
            have fin := Lib.hid (And.intro (show Below w.heap.size w w9 from (B8.drew.trans (hb8.mono B8.size)).trans (hb9.mono (B8.drew.trans (hb8.mono B8.size)).size)) (show Below w7b.heap.size w7b w9 from ((Below.refl _ w7b).drew.trans hb8).trans (hb9.mono hb8.size)))
            have hrf := Ty.same_refl X
            go_wp2_with fail
            go_meet
            exact ⟨by rw [hrf]; rfl, fin.out⟩
        case rest =>
          obtain ⟨rfl, B9, hb9⟩ := hcut
          clear c d f g q5d
          replace bB := bB.call hb9
          replace bD := bD.call hb9
          have q6d := (q6.below hb9).drew
          have d := bB.cell
          have g := bD.cell
          go_upto_region 16 with fail
          go_cut [58] (fun s wx => s = .bool false ∧ Below w.heap.size w wx)
          case first =>
            go_region_with (first
              | (go_at_call 9; ((with_reducible refine (toType_cW X' _ _ (HX'.out.below B9.drew) (by omega)).mono ?_); rintro e w8 ⟨cs8, rfl, hcs8, hb8⟩; have q8 : D.Ats w8 anyB X'.ds cs8 := hcs8.weaken (fun _ _ => trivial); have g8 := (Box.call (w := wc.drew) bD hb8).cell))
              | (go_at_call 11; ((with_reducible refine (eqType_cW X' X' _ _ _ (q6d.below hb8) q8).mono ?_); rintro e w9 ⟨rfl, hb10⟩)))
            all_goals
              have fin := Lib.hid (show Below w.heap.size w w9 from (B9.drew.trans (hb8.mono B9.size)).trans (hb10.mono (B9.drew.trans (hb8.mono B9.size)).size))
              have hrf := Ty.same_refl X'
              go_wp2_with fail
              go_meet
              exact ⟨by rw [hrf]; rfl, fin.out⟩
          case rest =>
            obtain ⟨rfl, B10⟩ := hcut
            go_wp2
            go_ret
            exact ⟨rfl, B10⟩
    · rw [left_no hle']
      go_wp2
      go_ret
      exact ⟨rfl, B2⟩
  · rw [left_no hle]
    go_wp2
    go_ret
    exact ⟨rfl, B1⟩
end Go.Proofs.YtoioljkhinodaaaGreatDoor
