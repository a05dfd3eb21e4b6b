/- HandlesIn: the law. What the row's condition gives: utf8's two tables. -/
import Derived.Test.YtofihcahimdbhaaGreatDoorOValue
import Derived.Test.YtofihcahimdbhaaGreatDoorOType
import Derived.Test.YtofihcahimdbhaaGreatDoorGValue
import Derived.Test.YtofihcahimdbhaaGreatDoorGType
import Derived.Test.YtofihcahimdbhaaGreatDoorPkP
import Derived.Test.YtofihcahimdbhaaGreatDoorPkMk
import Derived.Test.YtofihcahimdbhaaGreatDoorGHandle
import Derived.Test.YtofihcahimdbhaaGreatDoorPkHa
import Derived.Deep.DeepCutAuto
import Derived.Test.YtofihcahimdbhaaGreatDoorRows
import Derived.Test.YtofihcahimdbhaaGreatDoorUtfT
import Derived.ProofKit
import Derived.LaidMore
import Derived.Lib.LaidU8T
import Derived.PinnedBridge
import Derived.MakeChecks
namespace Go.Proofs.YtofihcahimdbhaaGreatDoor
open Go.RowKit Go.ChangeShapes Go.WideShapes

theorem Va.counts_le (x : Va) : D.counts x.ds ≤ 7 * D.totals x.ds + 4 := by
  induction x using Va.ind with
  | h k m t kids ih =>
    have key : ∀ ks : List Va, (∀ y ∈ ks, D.counts y.ds ≤ 7 * D.totals y.ds + 4) → D.counts (ks.flatMap Va.ds) ≤ 7 * D.totals (ks.flatMap Va.ds) + 4 * ks.length := by
      intro ks
      induction ks with
      | nil => intro _; simp [D.counts]
      | cons y r ihr =>
        intro h
        have h1 := h y (by simp)
        have h2 := ihr (fun z hz => h z (by simp [hz]))
        rw [List.flatMap_cons, D.counts_append, D.totals_append, List.length_cons]
        omega
    have h1 := key kids ih
    have e1 : D.counts (Va.ds (.mk k m t kids)) = 3 + D.counts (kids.flatMap Va.ds) := by rw [Va.ds_eq]; simp [D.counts, D.count, rows]; omega
    have e2 : D.totals (Va.ds (.mk k m t kids)) = t.size + (kids.length + D.totals (kids.flatMap Va.ds)) := by
      rw [Va.ds_eq]; simp [D.totals, D.total, rows]
    omega
theorem Va.topsC_le (x : Va) : D.topsC x.ds ≤ 7 * D.totals x.ds + 4 := by
  have h := Va.counts_le x
  obtain ⟨k, m, t, kids⟩ := x
  rw [Va.ds_eq] at h ⊢
  simp only [D.topsC, D.topC, D.counts, D.count, rows] at h ⊢
  omega
theorem toValue_c (x : Va) (cs : List Value) (w : World) (h : D.Ats w anyB x.ds cs) (ht : D.totals x.ds ≤ 1048576) : Calls Tryz.prog 20 #[.agg cs.toArray] w (RetDs x.ds w) := toValue_w x cs w h ht
theorem eqValue_c (x y : Va) (cs cs' : List Value) (w : World) (h : D.Ats w anyB x.ds cs) (h' : D.Ats w anyB y.ds cs') :
    Calls Tryz.prog 23 #[.agg cs.toArray, .agg cs'.toArray] w fun e w' => e = .returned (.bool (Va.same x y)) ∧ Below w.heap.size w w' := eqValue_w x y cs cs' w h h'
theorem toType_c (x : Ty) (cs : List Value) (w : World) (h : D.Ats w anyB x.ds cs) (ht : D.totals x.ds ≤ 1048576) : Calls Tryz.prog 21 #[.agg cs.toArray] w (RetDs x.ds w) := toType_w x cs w h ht
theorem eqType_c (x y : Ty) (cs cs' : List Value) (w : World) (h : D.Ats w anyB x.ds cs) (h' : D.Ats w anyB y.ds cs') :
    Calls Tryz.prog 24 #[.agg cs.toArray, .agg cs'.toArray] w fun e w' => e = .returned (.bool (Ty.same x y)) ∧ Below w.heap.size w w' := eqType_w x y cs cs' w h h'
set_option maxHeartbeats 8000000 in
set_option maxRecDepth 20000 in
theorem law_FnExactHandlesIn {H : Type} {enc : TypeId × Value → H} {b0 b1 : Nat} {w : World} (v : Value) (d : DataW H) (p : List MemPlace) (hv : Value.okWide Tryz.prog w .any b0 46 v)
    (h : DataW.Trod enc Tryz.prog w 0 (fun _ => true) true 46 v d p) (v' : Value) (d' : DataW H) (p' : List MemPlace) (hv' : Value.okWide Tryz.prog w .any b1 49 v')
    (h' : DataW.Trod enc Tryz.prog w 0 (fun _ => true) true 49 v' d' p') (ht : Tabs w) :
    Calls Tryz.prog 5 #[v, v'] w fun e w' => e = .returned (.bool true) ∧ Below w.heap.size w w' := by
  obtain ⟨cs, X, rfl, hx⟩ := Value_arg hv h
  obtain ⟨cs', X', rfl, hx'⟩ := Type_arg hv' h'
  clear hv h hv' h'
  obtain ⟨k0, k1, k2, k3A, k3m, k3c, rfl⟩ := Va.form hx
  obtain ⟨n0, n1, n2A, n2m, n2c, n3A, n3m, n3c, rfl⟩ := Ty.form hx'
  have HT := Lib.hid ht
  clear ht
  have HX := Lib.hid hx
  have HX' := Lib.hid hx'
  clear hx hx'
  obtain ⟨R, hR⟩ : ∃ R, hanOr X X' = R := ⟨_, rfl⟩
  have HR := Lib.hid hR
  have hRl := hanOr_len X X'
  rw [hR] at hRl
  have hnt := Va.nodes_total X
  clear hR
  go_enter Tryz.func5, Tryz.ntmps5
  go_wp2_with fail
  refine (szValue_w X _ _ _ (HX.out.below (by repeat (first | exact Below.refl _ _ | refine Below.alloc ?_ (by first | omega | (simp <;> omega)) _))) (by omega) (by omega)).mono ?_
  rintro e w1 ⟨rfl, hb1⟩
  obtain ⟨B1, bA, bB⟩ := box2 (cA := [_, _, _, _]) (cB := [_, _, _, _]) hb1
  clear hb1
  by_cases hle : (D.totals X.ds : Int) ≤ 1048576
  · rw [left_yes hle]
    have hg : ¬ (1048576 - (D.totals X.ds : Int) < 0) := by omega
    have c := bA.cell
    have d := bB.cell
    go_wp2_with fail
    refine (szType_w X' _ _ _ (HX'.out.below B1) (by omega) (by omega)).mono ?_
    rintro e w2 ⟨rfl, hb2⟩
    clear c d
    have B2 := B1.trans (hb2.mono B1.size)
    replace bA := bA.call hb2
    replace bB := bB.call hb2
    clear B1 hb2
    by_cases hle' : (D.totals X'.ds : Int) ≤ 1048576 - D.totals X.ds
    · rw [left_yes hle']
      have hp2 : D.totals X'.ds ≤ 1048576 := by omega
      have hnd : X.nodes ≤ 2000000 := by omega
      have HC := Lib.hid (show 1 + D.count (rows Hn.ds 3 R) ≤ 1000000000000 by rw [rows_count, hn_count]; omega)
      have hg' : ¬ (1048576 - (D.totals X.ds : Int) - D.totals X'.ds < 0) := by omega
      have c := bA.cell
      have d := bB.cell
      clear hRl hnt
      go_upto_region 8 with fail
      go_cut [6] (fun s wx => ∃ A0 c0, s = .slice A0 R.length c0 ∧ D.At wx (fun b => b < wx.heap.size) (rows Hn.ds 3 R) (.slice A0 R.length c0) ∧ Below w.heap.size w wx ∧ Box wx w.heap.size 46 [.int .i64 k0, .int .i64 k1, .string k2, .slice k3A k3m k3c] ∧ Box wx (w.heap.size + 1) 49 [.int .i64 n0, .string n1, .slice n2A n2m n2c, .slice n3A n3m n3c])
      case first =>
        go_region_with (first
          | (go_at_call 20; ((with_reducible refine (toValue_c X _ _ (HX.out.below (by first | exact B3'.drew | exact B3' | exact B2.drew)) (by omega)).mono ?_); rintro e w3 ⟨cs3, rfl, hcs3, hb3⟩; have q3 : D.Ats w3 anyB X.ds cs3 := hcs3.weaken (fun _ _ => trivial); have B3 := Below.trans (by first | exact B3'.drew | exact B3' | exact B2.drew) (hb3.mono (by first | exact B3'.size | exact B2.size)); have bA3 : Box w3 w.heap.size 46 [.int .i64 k0, .int .i64 k1, .string k2, .slice k3A k3m k3c] := (by first | exact bA3'.call hb3 | exact Box.call (w := w2.drew) bA hb3); have bB3 : Box w3 (w.heap.size + 1) 49 [.int .i64 n0, .string n1, .slice n2A n2m n2c, .slice n3A n3m n3c] := (by first | exact bB3'.call hb3 | exact Box.call (w := w2.drew) bB hb3); have c3 := bA3.cell; have d3 := bB3.cell))
          | (go_at_call 21; ((with_reducible refine (toType_c X' _ _ (HX'.out.below (by first | exact B3.drew | exact B3 | exact B2.drew)) (by omega)).mono ?_); rintro e w3' ⟨cs3', rfl, hcs3', hb3'⟩; have q3' : D.Ats w3' anyB X'.ds cs3' := hcs3'.weaken (fun _ _ => trivial); have B3' := Below.trans (by first | exact B3.drew | exact B3 | exact B2.drew) (hb3'.mono (by first | exact B3.size | exact B2.size)); have bA3' : Box w3' w.heap.size 46 [.int .i64 k0, .int .i64 k1, .string k2, .slice k3A k3m k3c] := (by first | exact bA3.call hb3' | exact Box.call (w := w2.drew) bA hb3'); have bB3' : Box w3' (w.heap.size + 1) 49 [.int .i64 n0, .string n1, .slice n2A n2m n2c, .slice n3A n3m n3c] := (by first | exact bB3.call hb3' | exact Box.call (w := w2.drew) bB hb3'); have c3' := bA3'.cell; have d3' := bB3'.cell))
          | (go_at_call 25; ((with_reducible refine (hanRet_s X X' R HR.out _ _ _ hnd hp2 (by first | exact q3.below hb3' | exact q3) (by first | exact q3'.below hb3 | exact q3')).mono ?_); rintro e w4 ⟨v4, rfl, at4, hb4⟩; have B4 : Below w.heap.size w w4 := (by first | exact B3'.trans (hb4.mono B3'.size) | exact B3.trans (hb4.mono B3.size)); have bA4 := (by first | exact bA3'.call hb4 | exact bA3.call hb4); have bB4 := (by first | exact bB3'.call hb4 | exact bB3.call hb4))))
        all_goals
          obtain ⟨A4, c4, rfl, -, -⟩ := rows_form Hn.len at4.at_
          have fin := Lib.hid (And.intro at4.lt_ (And.intro B4 (And.intro (show Box w4 w.heap.size 46 [.int .i64 k0, .int .i64 k1, .string k2, .slice k3A k3m k3c] by first | exact bA3'.call hb4 | exact bA3.call hb4) (show Box w4 (w.heap.size + 1) 49 [.int .i64 n0, .string n1, .slice n2A n2m n2c, .slice n3A n3m n3c] by first | exact bB3'.call hb4 | exact bB3.call hb4))))
          clear at4
          go_wp2_with fail
          go_meet
          exact ⟨A4, c4, rfl, fin.out⟩
      case rest =>
        obtain ⟨A0, c0, rfl, at0, B3, bA, bB⟩ := hcut
        obtain ⟨w3, hw3⟩ : ∃ w3, w3 = wc := ⟨_, rfl⟩
        rw [← hw3] at at0 B3 bA bB ⊢
        clear hw3 c d
        have HB3 := Lib.hid B3.size
        have lA3 := bA.lt
        have lB3 := bB.lt
        have HL3 := Lib.hid (And.intro lA3 lB3)
        have H0 := Lib.hid at0
        clear at0 lA3 lB3
        have c := bA.cell
        have d := bB.cell
        -- the two arguments, copied
        go_wp2_with fail
        refine (toValue_p X _ _ (HX.out.below B3) (by omega)).mono ?_
        rintro e w5 ⟨cs5, rfl, hcs5, hb5⟩
        obtain ⟨zp0, zp1, zp2, zp3A, zp3m, zp3c, rfl⟩ := Va.form hcs5.ats
        have B5 := B3.trans (hb5.mono B3.size)
        have s35 := hb5.size
        replace bA := bA.call hb5
        replace bB := bB.call hb5
        replace H0 := Lib.hid (H0.out.below hb5)
        have QX := Lib.hid hcs5
        clear c d B3 hb5 hcs5
        have c := bA.cell
        have d := bB.cell
        have lA := bA.lt
        have lB := bB.lt
        go_wp2_with fail
        refine (toType_p X' _ _ (HX'.out.below (B5.alloc B5.size _)) (by omega)).mono ?_
        rintro e w6 ⟨cs6, rfl, hcs6, hb6⟩
        obtain ⟨zq0, zq1, zq2A, zq2m, zq2c, zq3A, zq3m, zq3c, rfl⟩ := Ty.form hcs6.ats
        have aC : Below w5.heap.size w5 (w5.alloc (.cells #[.int .i64 zp0, .int .i64 zp1, .string zp2, .slice zp3A zp3m zp3c] 55)) := (Below.refl _ _).alloc (Nat.le_refl _) _
        have b56 : Below w5.heap.size w5 w6 := aC.trans (hb6.mono (by simp))
        have bC : Box w6 w5.heap.size 55 [.int .i64 zp0, .int .i64 zp1, .string zp2, .slice zp3A zp3m zp3c] := (Box.new w5 _ _).call hb6
        have B6 := B5.trans (b56.mono B5.size)
        have s56 : w5.heap.size + 1 ≤ w6.heap.size := by have := hb6.size; simpa using this
        replace bA := bA.call b56
        replace bB := bB.call b56
        replace H0 := Lib.hid (H0.out.below b56)
        replace QX := Lib.hid (QX.out.below b56 (Nat.le_refl _))
        have QY := Lib.hid (hcs6.weaken (lo' := w5.heap.size + 1) (hi' := w6.heap.size) (by simp) (Nat.le_refl _))
        clear c d B5 hb6 hcs6 lA lB aC b56
        have c := bA.cell
        have d := bB.cell
        have f := bC.cell
        have lA := bA.lt
        have lB := bB.lt
        have lC := bC.lt
        -- the program
        go_wp2_with fail
        refine (hanRet_i X X' R HR.out _ _ _ (tabs_below HT.out (B6.alloc B6.size _)) hnd hp2 (QX.out.ats.below ((Below.refl _ _).alloc (Nat.le_refl _) _)) (QY.out.ats.below ((Below.refl _ _).alloc (Nat.le_refl _) _))).mono ?_
        rintro e w7 ⟨v7, rfl, at7, hb7⟩
        obtain ⟨A7, c7, rfl, -, -⟩ := rows_form Hn.len at7.at_
        have aD : Below w6.heap.size w6 (w6.alloc (.cells #[.int .i64 zq0, .string zq1, .slice zq2A zq2m zq2c, .slice zq3A zq3m zq3c] 30)) := (Below.refl _ _).alloc (Nat.le_refl _) _
        have b67 : Below w6.heap.size w6 w7 := aD.trans (hb7.mono (by simp))
        have bD : Box w7 w6.heap.size 30 [.int .i64 zq0, .string zq1, .slice zq2A zq2m zq2c, .slice zq3A zq3m zq3c] := (Box.new w6 _ _).call hb7
        have B7 := B6.trans (b67.mono B6.size)
        have s67 : w6.heap.size + 1 ≤ w7.heap.size := by have := hb7.size; simpa using this
        replace bA := bA.call b67
        replace bB := bB.call b67
        replace bC := bC.call b67
        replace H0 := Lib.hid (H0.out.below b67)
        replace QX := Lib.hid (QX.out.below b67 (by omega))
        replace QY := Lib.hid (QY.out.below b67 (Nat.le_refl _))
        have QG := Lib.hid (at7.weaken (lo' := w6.heap.size + 1) (hi' := w7.heap.size) (by simp) (Nat.le_refl _))
        clear c d f B6 hb7 at7 lA lB lC aD b67
        have c := bA.cell
        have d := bB.cell
        have f := bC.cell
        have g := bD.cell
        -- the same
        go_wp2_with fail
        refine (eqHandleS_w R R (fun x _ => eqHandle_w x) _ _ _ QG.out.at_ H0.out.any_).mono ?_
        rintro e w8 ⟨rfl, hb8⟩
        have B8 := B7.trans (hb8.mono B7.size)
        have s78 := hb8.size
        replace bA := bA.call hb8
        replace bB := bB.call hb8
        replace bC := bC.call hb8
        replace bD := bD.call hb8
        replace H0 := Lib.hid (H0.out.below hb8)
        replace QX := Lib.hid (QX.out.below hb8 (by omega))
        replace QY := Lib.hid (QY.out.below hb8 (by omega))
        replace QG := Lib.hid (QG.out.below hb8 (Nat.le_refl _))
        have hrefl : pairs Hn.same R R = true := pairs_refl (q := Hn.same) (fun x _ => Hn.same_refl x)
        rw [hrefl]
        clear c d f g hb8 hrefl B7
        have c := bA.cell
        have d := bB.cell
        have f := bC.cell
        have g := bD.cell
        have q8d : D.Ats w8.drew anyB X.ds [.int .i64 zp0, .int .i64 zp1, .string zp2, .slice zp3A zp3m zp3c] := QX.out.ats.drew
        go_upto_region 14 with fail
        go_cut [44] (fun s wx => s = .bool false ∧ Below w.heap.size w wx ∧ Below w8.heap.size w8 wx)
        case first =>
          go_region_with (first
            | (go_at_call 20; ((with_reducible refine (toValue_c X _ _ (HX.out.below B8.drew) (by omega)).mono ?_); rintro e w9 ⟨cs9, rfl, hcs9, hb9⟩; have q9 : D.Ats w9 anyB X.ds cs9 := hcs9.weaken (fun _ _ => trivial); have f9 := (Box.call (w := w8.drew) bC hb9).cell))
            | (go_at_call 23; ((with_reducible refine (eqValue_c X X _ _ _ (q8d.below hb9) q9).mono ?_); rintro e w10 ⟨rfl, hb10⟩)))
          all_goals
            have fin := Lib.hid (And.intro (show Below w.heap.size w w10 from (B8.drew.trans (hb9.mono B8.size)).trans (hb10.mono (B8.drew.trans (hb9.mono B8.size)).size)) (show Below w8.heap.size w8 w10 from ((Below.refl _ w8).drew.trans hb9).trans (hb10.mono hb9.size)))
            have hrf := Va.same_refl X
            go_wp2_with fail
            go_meet
            exact ⟨by rw [hrf]; rfl, fin.out⟩
        case rest =>
          obtain ⟨rfl, B9, hb9⟩ := hcut
          obtain ⟨w9, hw9⟩ : ∃ w9, w9 = wc := ⟨_, rfl⟩
          rw [← hw9] at B9 hb9 ⊢
          have s89 := hb9.size
          replace bA := bA.call hb9
          replace bB := bB.call hb9
          replace bC := bC.call hb9
          replace bD := bD.call hb9
          replace H0 := Lib.hid (H0.out.below hb9)
          replace QX := Lib.hid (QX.out.below hb9 (by omega))
          replace QY := Lib.hid (QY.out.below hb9 (by omega))
          replace QG := Lib.hid (QG.out.below hb9 (by omega))
          clear hw9 c d f g q8d hb9 B8
          have c := bA.cell
          have d := bB.cell
          have f := bC.cell
          have g := bD.cell
          have q9d : D.Ats w9.drew anyB X'.ds [.int .i64 zq0, .string zq1, .slice zq2A zq2m zq2c, .slice zq3A zq3m zq3c] := QY.out.ats.drew
          go_upto_region 16 with fail
          go_cut [49] (fun s wx => s = .bool false ∧ Below w.heap.size w wx ∧ Below w9.heap.size w9 wx)
          case first =>
            go_region_with (first
              | (go_at_call 21; ((with_reducible refine (toType_c X' _ _ (HX'.out.below B9.drew) (by omega)).mono ?_); rintro e w10 ⟨cs10, rfl, hcs10, hb10⟩; have q10 : D.Ats w10 anyB X'.ds cs10 := hcs10.weaken (fun _ _ => trivial); have g10 := (Box.call (w := w9.drew) bD hb10).cell))
              | (go_at_call 24; ((with_reducible refine (eqType_c X' X' _ _ _ (q9d.below hb10) q10).mono ?_); rintro e w11 ⟨rfl, hb11⟩)))
            all_goals
              have fin := Lib.hid (And.intro (show Below w.heap.size w w11 from (B9.drew.trans (hb10.mono B9.size)).trans (hb11.mono (B9.drew.trans (hb10.mono B9.size)).size)) (show Below w9.heap.size w9 w11 from ((Below.refl _ w9).drew.trans hb10).trans (hb11.mono hb10.size)))
              have hrf := Ty.same_refl X'
              go_wp2_with fail
              go_meet
              exact ⟨by rw [hrf]; rfl, fin.out⟩
          case rest =>
            obtain ⟨rfl, B10, hb10⟩ := hcut
            obtain ⟨w10, hw10⟩ : ∃ w10, w10 = wc := ⟨_, rfl⟩
            rw [← hw10] at B10 hb10 ⊢
            have s910 := hb10.size
            replace bA := bA.call hb10
            replace bB := bB.call hb10
            replace bC := bC.call hb10
            replace bD := bD.call hb10
            replace H0 := Lib.hid (H0.out.below hb10)
            replace QX := Lib.hid (QX.out.below hb10 (by omega))
            replace QY := Lib.hid (QY.out.below hb10 (by omega))
            replace QG := Lib.hid (QG.out.below hb10 (by omega))
            clear hw10 c d f g q9d hb10 B9
            have c := bA.cell
            have d := bB.cell
            have f := bC.cell
            have g := bD.cell
            obtain ⟨-, lX, hX1, hX2, hX3⟩ := QX.out
            obtain ⟨-, lY, hY1, hY2, hY3⟩ := QY.out
            obtain ⟨-, lG, hG1, hG2, hG3⟩ := QG.out
            have KX := Lib.hid (And.intro hX1 (And.intro hX2 hX3))
            have KY := Lib.hid (And.intro hY1 (And.intro hY2 hY3))
            have KG := Lib.hid (And.intro hG1 (And.intro hG2 hG3))
            clear hX1 hX2 hX3 hY1 hY2 hY3 hG1 hG2 hG3 QX QY QG
            have hcX : 1 + D.topsC X.ds ≤ 1000000000000 := by have := Va.topsC_le X; omega
            -- the value is marked
            go_wp2_with fail
            refine (markValue_w X _ lX 1 _ _ (by rfl) (by omega) hcX KX.out.1 KX.out.2.1).mono ?_
            rintro e w11 ⟨m11, hm11, rfl, sx, wr11⟩
            have hcY : m11 + D.topsC X'.ds ≤ 1000000000000 := by have := Ty.topsC_le X'; have := Va.topsC_le X; omega
            have B11 := B10.trans (wr11.below B10.size (fun b hb => by have := KX.out.2.2 b hb; have := HB3.out; omega))
            have s1011 := wr11.size
            have nA : w.heap.size ∉ lX := fun hm => by have := KX.out.2.2 _ hm; have := HL3.out; omega
            have nB : w.heap.size + 1 ∉ lX := fun hm => by have := KX.out.2.2 _ hm; have := HL3.out; omega
            have nC : w5.heap.size ∉ lX := fun hm => by have := KX.out.2.2 _ hm; omega
            have nD : w6.heap.size ∉ lX := fun hm => by have := KX.out.2.2 _ hm; omega
            replace bA : Box w11 w.heap.size _ _ := (wr11.block _ bA.lt nA).trans bA
            replace bB : Box w11 (w.heap.size + 1) _ _ := (wr11.block _ bB.lt nB).trans bB
            replace bC : Box w11 w5.heap.size _ _ := (wr11.block _ bC.lt nC).trans bC
            replace bD : Box w11 w6.heap.size _ _ := (wr11.block _ bD.lt nD).trans bD
            have hkeep : ∀ b, b < w10.heap.size → b < w3.heap.size → w11.heap[b]? = w10.heap[b]? ∧ b < w3.heap.size ∧ b < w11.heap.size := fun b h1 h2 =>
              ⟨wr11.block b h1 (fun hm => by have := KX.out.2.2 _ hm; omega), h2, by omega⟩
            replace H0 := Lib.hid (H0.out.keep (S' := fun b => b < w3.heap.size) hkeep _ _)
            have KY1 := Lib.hid (And.intro (D.Seps.wr KY.out.1 wr11 (fun b hb hm => by have := KX.out.2.2 _ hm; have := KY.out.2.2 _ hb; omega)) KY.out.2)
            have KG1 := Lib.hid (And.intro (D.Sep.wr KG.out.1 wr11 (fun b hb hm => by have := KX.out.2.2 _ hm; have := KG.out.2.2 _ hb; omega)) KG.out.2)
            have hmm := hm11
            clear c d f g hm11 sx wr11 KY KG hkeep nA nB nC nD B10 KX
            have HM11 := Lib.hid hmm
            clear hmm
            have KY := KY1
            have KG := KG1
            clear KY1 KG1
            have c := bA.cell
            have d := bB.cell
            have f := bC.cell
            have g := bD.cell
            -- the type is marked
            go_wp2_with fail
            refine (markType_w X' _ lY m11 _ _ (by rfl) (by have := HM11.out; omega) hcY KY.out.1 KY.out.2.1).mono ?_
            rintro e w12 ⟨m12, hm12, rfl, sx, wr12⟩
            have hm0 : ¬ ((m12 : Int) < 0) := by omega
            have B12 := B11.trans (wr12.below B11.size (fun b hb => by have := KY.out.2.2 b hb; have := HB3.out; omega))
            have s1112 := wr12.size
            have nA : w.heap.size ∉ lY := fun hm => by have := KY.out.2.2 _ hm; have := HL3.out; omega
            have nB : w.heap.size + 1 ∉ lY := fun hm => by have := KY.out.2.2 _ hm; have := HL3.out; omega
            replace bA : Box w12 w.heap.size _ _ := (wr12.block _ bA.lt nA).trans bA
            replace bB : Box w12 (w.heap.size + 1) _ _ := (wr12.block _ bB.lt nB).trans bB
            have hkeep : ∀ b, b < w11.heap.size → b < w3.heap.size → w12.heap[b]? = w11.heap[b]? ∧ b < w3.heap.size ∧ b < w12.heap.size := fun b h1 h2 =>
              ⟨wr12.block b h1 (fun hm => by have := KY.out.2.2 _ hm; omega), h2, by omega⟩
            replace H0 := Lib.hid (H0.out.keep (S' := fun b => b < w3.heap.size) hkeep _ _)
            have KG1 := Lib.hid (And.intro (D.Sep.wr KG.out.1 wr12 (fun b hb hm => by have := KY.out.2.2 _ hm; have := KG.out.2.2 _ hb; omega)) KG.out.2)
            clear c d f g hm12 sx wr12 KY KG hkeep nA nB B11 bC bD
            have KG := KG1
            clear KG1
            have c := bA.cell
            have d := bB.cell
            -- the result reads as before
            go_wp2_with fail
            refine (eqHandleS_w R R (fun x _ => eqHandle_w x) _ _ _ (D.Sep.at_ _ _ _ (fun _ _ => trivial) KG.out.1) H0.out.any_).mono ?_
            rintro e w13 ⟨rfl, hb13⟩
            have B13 := B12.trans (hb13.mono B12.size)
            have s1213 := hb13.size
            replace bA := bA.call hb13
            replace bB := bB.call hb13
            replace H0 := Lib.hid (H0.out.below hb13)
            have KG1 := Lib.hid (And.intro (D.Sep.below KG.out.1 hb13) KG.out.2)
            have hrefl : pairs Hn.same R R = true := pairs_refl (q := Hn.same) (fun x _ => Hn.same_refl x)
            rw [hrefl]
            clear c d hb13 hrefl B12 KG
            have KG := KG1
            clear KG1
            have c := bA.cell
            have d := bB.cell
            -- the result is marked
            go_wp2_with fail
            refine (markHandleS_w R _ lG 1 _ _ (by rfl) (by omega) HC.out KG.out.1 KG.out.2.1).mono ?_
            rintro e w14 ⟨m14, hm14, rfl, sg, wr14⟩
            have HM := Lib.hid hm14
            clear hm14
            have B14 := B13.trans (wr14.below B13.size (fun b hb => by have := KG.out.2.2 b hb; have := HB3.out; omega))
            have nA : w.heap.size ∉ lG := fun hm => by have := KG.out.2.2 _ hm; have := HL3.out; omega
            have nB : w.heap.size + 1 ∉ lG := fun hm => by have := KG.out.2.2 _ hm; have := HL3.out; omega
            replace bA : Box w14 w.heap.size _ _ := (wr14.block _ bA.lt nA).trans bA
            replace bB : Box w14 (w.heap.size + 1) _ _ := (wr14.block _ bB.lt nB).trans bB
            have hkeep : ∀ b, b < w13.heap.size → b < w3.heap.size → w14.heap[b]? = w13.heap[b]? ∧ b < w3.heap.size ∧ b < w14.heap.size := fun b h1 h2 =>
              ⟨wr14.block b h1 (fun hm => by have := KG.out.2.2 _ hm; omega), h2, by have := wr14.size; omega⟩
            replace H0 := Lib.hid (H0.out.keep (S' := fun b => b < w3.heap.size) hkeep _ _)
            have MG := Lib.hid (show D.At w14 anyB (D.mark 1 (rows Hn.ds 3 R)) (.slice A7 R.length c7) from D.Sep.at_ _ _ _ (fun _ _ => trivial) sg)
            clear c d sg wr14 KG hkeep nA nB B13
            have c := bA.cell
            have d := bB.cell
            -- the marks are found
            go_wp2_with fail
            refine (heldHandleS_w R _ 1 _ _ (by rfl) (by omega) HC.out MG.out).mono ?_
            rintro e w15 ⟨m15, hm15, rfl, hb15⟩
            obtain rfl : m15 = m14 := by have := HM.out; omega
            clear hm15
            have hm2 : ¬ ((m15 : Int) < 0) := by omega
            have B15 := B14.trans (hb15.mono B14.size)
            replace bA := bA.call hb15
            replace bB := bB.call hb15
            replace H0 := Lib.hid (H0.out.below hb15)
            replace MG := Lib.hid (MG.out.below hb15)
            clear c d hb15 B14
            have c := bA.cell
            have d := bB.cell
            -- once more
            go_upto_region 31 with fail
            go_cut [13] (fun s wx => ∃ A9 c9, s = .slice A9 R.length c9 ∧ D.At wx anyB (rows Hn.ds 3 R) (.slice A9 R.length c9) ∧ Below w.heap.size w wx ∧ Below w15.heap.size w15 wx)
            case first =>
              go_region_with (first
                | (go_at_call 20; ((with_reducible refine (toValue_c X _ _ (HX.out.below (by first | exact B3'.drew | exact B3' | exact B15.drew)) (by omega)).mono ?_); rintro e w3 ⟨cs3, rfl, hcs3, hb3⟩; have q3 : D.Ats w3 anyB X.ds cs3 := hcs3.weaken (fun _ _ => trivial); have E3 : Below w15.heap.size w15 w3 := (by first | exact E3'.trans (hb3.mono E3'.size) | exact (Below.refl _ w15).drew.trans hb3); have B3 := Below.trans (by first | exact B3'.drew | exact B3' | exact B15.drew) (hb3.mono (by first | exact B3'.size | exact B15.size)); have bA3 : Box w3 w.heap.size 46 [.int .i64 k0, .int .i64 k1, .string k2, .slice k3A k3m k3c] := (by first | exact bA3'.call hb3 | exact Box.call (w := w15.drew) bA hb3); have bB3 : Box w3 (w.heap.size + 1) 49 [.int .i64 n0, .string n1, .slice n2A n2m n2c, .slice n3A n3m n3c] := (by first | exact bB3'.call hb3 | exact Box.call (w := w15.drew) bB hb3); have c3 := bA3.cell; have d3 := bB3.cell))
                | (go_at_call 21; ((with_reducible refine (toType_c X' _ _ (HX'.out.below (by first | exact B3.drew | exact B3 | exact B15.drew)) (by omega)).mono ?_); rintro e w3' ⟨cs3', rfl, hcs3', hb3'⟩; have q3' : D.Ats w3' anyB X'.ds cs3' := hcs3'.weaken (fun _ _ => trivial); have E3' : Below w15.heap.size w15 w3' := (by first | exact E3.trans (hb3'.mono E3.size) | exact (Below.refl _ w15).drew.trans hb3'); have B3' := Below.trans (by first | exact B3.drew | exact B3 | exact B15.drew) (hb3'.mono (by first | exact B3.size | exact B15.size)); have bA3' : Box w3' w.heap.size 46 [.int .i64 k0, .int .i64 k1, .string k2, .slice k3A k3m k3c] := (by first | exact bA3.call hb3' | exact Box.call (w := w15.drew) bA hb3'); have bB3' : Box w3' (w.heap.size + 1) 49 [.int .i64 n0, .string n1, .slice n2A n2m n2c, .slice n3A n3m n3c] := (by first | exact bB3.call hb3' | exact Box.call (w := w15.drew) bB hb3'); have c3' := bA3'.cell; have d3' := bB3'.cell))
                | (go_at_call 26; ((with_reducible refine (hanRet_i X X' R HR.out _ _ _ (tabs_below HT.out (by first | exact B3' | exact B3)) hnd hp2 (by first | exact q3.below hb3' | exact q3) (by first | exact q3'.below hb3 | exact q3')).mono ?_); rintro e w4 ⟨v4, rfl, at4, hb4⟩; have B4 : Below w.heap.size w w4 := (by first | exact B3'.trans (hb4.mono B3'.size) | exact B3.trans (hb4.mono B3.size)); have E4 : Below w15.heap.size w15 w4 := (by first | exact E3'.trans (hb4.mono E3'.size) | exact E3.trans (hb4.mono E3.size)))))
              all_goals
                obtain ⟨A4, c4, rfl, -, -⟩ := rows_form Hn.len at4.at_
                have fin := Lib.hid (And.intro at4.at_ (And.intro B4 E4))
                clear at4
                go_wp2_with fail
                go_meet
                exact ⟨A4, c4, rfl, fin.out⟩
            case rest =>
              obtain ⟨A9, c9, rfl, at9, B16, E16⟩ := hcut
              obtain ⟨w16, hw16⟩ : ∃ w16, w16 = wc := ⟨_, rfl⟩
              rw [← hw16] at at9 B16 E16 ⊢
              replace H0 := Lib.hid (H0.out.below E16)
              replace MG := Lib.hid (MG.out.below E16)
              have G16 := Lib.hid at9
              clear hw16 c d at9 E16 bA bB B15
              go_wp2_with fail
              refine (eqHandleS_w R R (fun x _ => eqHandle_w x) _ _ _ G16.out H0.out.any_).mono ?_
              rintro e w17 ⟨rfl, hb17⟩
              have B17 := B16.trans (hb17.mono B16.size)
              replace MG := Lib.hid (MG.out.below hb17)
              have hrefl : pairs Hn.same R R = true := pairs_refl (q := Hn.same) (fun x _ => Hn.same_refl x)
              rw [hrefl]
              clear hb17 hrefl B16 G16 H0
              go_wp2_with fail
              refine (heldHandleS_w R _ 1 _ _ (by rfl) (by omega) HC.out MG.out).mono ?_
              rintro e w18 ⟨m18, hm18, rfl, hb18⟩
              obtain rfl : m18 = m15 := by have := HM.out; omega
              clear hm18
              have B18 := B17.trans (hb18.mono B17.size)
              clear hb18 B17
              go_wp2
              go_ret
              exact ⟨rfl, B18⟩
    · rw [left_no hle']
      go_wp2
      go_ret
      exact ⟨rfl, B2⟩
  · rw [left_no hle]
    go_wp2
    go_ret
    exact ⟨rfl, B1⟩
end Go.Proofs.YtofihcahimdbhaaGreatDoor
namespace Go.Proofs.YtofihcahimdbhaaGreatDoor
open Go.ChangeShapes Go.WideShapes Go.ChangeAt Go.RowKit
theorem accept_eq : Rows.laid_unicode_utf8_acceptRanges = Lib.acceptData := by kernel_rfl
theorem Tabs_of_fnExactFits {W : World} (h : laidMetH Tryz.prog Rows.fnExactFitsRow.laid W) : Tabs W := by
  rw [MakeChecks.laidMetH_plain _ _ _ (by kernel_rfl)] at h
  exact utf8Tabs_of_readsT (U8Types.of196 Tryz.laysValid) ⟨by kernel_rfl, by kernel_rfl, by kernel_rfl, by kernel_rfl, by kernel_rfl, by kernel_rfl, by kernel_rfl⟩
    (by rw [← Pinned.utf8First_eq]; exact Lib.laidMet.reads h (.tail _ (.head _))) (by rw [← accept_eq]; exact Lib.laidMet.reads h (.head _))
theorem Tabs_of_fnExactHandlesIn {W : World} (h : laidMetH Tryz.prog Rows.fnExactHandlesInRow.laid W) : Tabs W := by
  rw [MakeChecks.laidMetH_plain _ _ _ (by kernel_rfl)] at h
  exact utf8Tabs_of_readsT (U8Types.of196 Tryz.laysValid) ⟨by kernel_rfl, by kernel_rfl, by kernel_rfl, by kernel_rfl, by kernel_rfl, by kernel_rfl, by kernel_rfl⟩
    (by rw [← Pinned.utf8First_eq]; exact Lib.laidMet.reads h (.tail _ (.head _))) (by rw [← accept_eq]; exact Lib.laidMet.reads h (.head _))
theorem Tabs_of_fnExactWithHandles {W : World} (h : laidMetH Tryz.prog Rows.fnExactWithHandlesRow.laid W) : Tabs W := by
  rw [MakeChecks.laidMetH_plain _ _ _ (by kernel_rfl)] at h
  exact utf8Tabs_of_readsT (U8Types.of196 Tryz.laysValid) ⟨by kernel_rfl, by kernel_rfl, by kernel_rfl, by kernel_rfl, by kernel_rfl, by kernel_rfl, by kernel_rfl⟩
    (by rw [← Pinned.utf8First_eq]; exact Lib.laidMet.reads h (.tail _ (.head _))) (by rw [← accept_eq]; exact Lib.laidMet.reads h (.head _))
end Go.Proofs.YtofihcahimdbhaaGreatDoor
