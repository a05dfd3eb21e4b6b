/- One part of a type fits, its kids too: by the program. -/
import Derived.Test.YtcpadaelgdmipaaGreatDoorTyPre
namespace Go.Proofs.YtcpadaelgdmipaaGreatDoor
open Go.RowKit Go.Shelf

set_option maxHeartbeats 8000000 in
set_option maxRecDepth 20000 in
theorem shapeOk_i1 (k : Int) (n : ByteArray) (l : List ByteArray) (kids : List Ty) (cs : List Value) (w : World) (hl0 : 0 < l.length) (hcs : D.Ats w anyB (Ty.ds (.mk k n l kids)) cs) (hi : ∀ x ∈ kids, IsPr 101 Ty.ds (fun y => !Ty.all shape y) #[] (fun _ => True) x) :
    Calls Tryz.prog 85 #[.agg cs.toArray] w fun e w' => e = .returned (.bool (Ty.all shape (.mk k n l kids))) ∧ Below w.heap.size w w' := by
  have HE := Lib.hid (shape_mk k n l kids)
  have HI := Lib.hid hi
  have HAA := Lib.hid (show Ty.all shape (.mk k n l kids) = (!(kids.any fun y => !Ty.all shape y) && shape (.mk k n l kids)) by rw [Ty.all_mk, all_any, Bool.and_comm])
  obtain ⟨A, cap, B, cap2, rfl, -, hnl, hl, hk⟩ := Ty.open_ hcs
  obtain ⟨-, hn, hc⟩ := rows_bound hk
  obtain ⟨-, hn', hc'⟩ := rows_bound hl
  unfold maxLen at hc hc'
  have HX := Lib.hid hcs
  have HV := Lib.hid hk
  have HL := Lib.hid hl
  clear hcs hl hk hi
  have hl0i : (0 : Int) < (l.length : Int) := by omega
  obtain ⟨N, hN⟩ : ∃ N, isNamed k = N := ⟨_, rfl⟩
  obtain ⟨Lb, hLb⟩ : ∃ Lb, isLabelled k = Lb := ⟨_, rfl⟩
  have HNL := Lib.hid (And.intro hN hLb)
  clear hN hLb
  go_enter Tryz.func85, Tryz.ntmps85
  go_wp2_with fail
  refine (containsFunc0 101 _ kids HI.out (enters_of Tryz.func101 (by kernel_rfl) rfl) _ _ _ (HV.out.below ((Below.refl _ _).alloc (Nat.le_refl _) _))).mono ?_
  rintro e w1 ⟨rfl, hb1⟩
  obtain ⟨B1, bA⟩ := box1 (cA := [_, _, _, _]) hb1
  clear hb1
  cases h1 : kids.any fun y => !Ty.all shape y
  case true =>
    have E1 := Lib.hid h1
    clear h1
    go_wp2
    go_ret
    exact ⟨ret_eq (by rw [HAA.out, E1.out]; rfl), B1⟩
  have HA := Lib.hid (show Ty.all shape (.mk k n l kids) = shape (.mk k n l kids) by rw [HAA.out, h1]; rfl)
  clear h1
  have c := bA.cell
  go_wp2_with fail
  refine (within_any _ _ _ _).mono ?_
  rintro e w2 ⟨rfl, rfl⟩
  rw [show inR 16 k 19 = Lb from HNL.out.2]
  go_upto_region 4 with fail
  go_cut [4] (fun s wr => s = .bool N ∧ Below w1.heap.size w1 wr)
  case first =>
    cases h20 : (k == 20)
    · cases h21 : (k == 21)
      all_goals
        have E := Lib.hid (And.intro h20 h21)
        go_wp2
        go_meet
        exact ⟨by rw [← HNL.out.1]; unfold isNamed; rw [E.out.1, E.out.2]; rfl, Below.refl _ _⟩
    · have E := Lib.hid h20
      go_wp2
      go_meet
      exact ⟨by rw [← HNL.out.1]; unfold isNamed; rw [E.out]; rfl, Below.refl _ _⟩
  case rest =>
    obtain ⟨rfl, hb⟩ := hcut
    have Bw := B1.trans (hb.mono B1.size)
    replace bA := bA.call hb
    clear c
    have c := bA.cell
    go_upto_region 5 with fail
    go_cut [53] (fun s wx => s = .bool (!headOk k n l) ∧ Below wc.heap.size wc wx)
    case first =>
      have HH := Lib.hid (show headOk k n l = ((N == !n.toList.isEmpty) && ((!N || nameOk n) && ((Lb == decide (0 < l.length)) && (!Lb || labelsOk l)))) by unfold headOk; rw [HNL.out.1, HNL.out.2])
      have HZ := Lib.hid (show decide (0 < l.length) = true from decide_eq_true hl0)
      clear HNL
      cases Lb
      · go_wp2
        go_meet
        exact ⟨by rw [HH.out]; first | (simp; done) | (simp [HZ.out]; done), Below.refl _ _⟩
      · go_wp2_with fail
        refine (labelsOk_i l _ _ _ (HL.out.below Bw)).mono ?_
        rintro e w3 ⟨rfl, hb3⟩
        cases hlb : labelsOk l
        · have HLb := Lib.hid hlb
          clear hlb
          go_wp2
          go_meet
          exact ⟨by rw [HH.out]; first | (simp; done) | (simp [HZ.out]; done) | (simp [HLb.out]; done) | (simp [HZ.out, HLb.out]; done), hb3⟩
        · have HLb := Lib.hid hlb
          clear hlb c
          have c3 := (bA.call hb3).cell
          cases N
          · cases he : n.toList.isEmpty
            · have e1 := he
              first | simp only [List.isEmpty_iff] at e1 | simp only [List.isEmpty_eq_false_iff] at e1
              have EE := Lib.hid he
              clear he
              go_wp2
              go_meet
              exact ⟨by rw [HH.out]; first | (simp; done) | (simp [HZ.out]; done) | (simp [HLb.out]; done) | (simp [EE.out]; done) | (simp [HZ.out, HLb.out]; done) | (simp [HZ.out, EE.out]; done) | (simp [HLb.out, EE.out]; done) | (simp [HZ.out, HLb.out, EE.out]; done), hb3⟩
            · have e1 := he
              first | simp only [List.isEmpty_iff] at e1 | simp only [List.isEmpty_eq_false_iff] at e1
              have EE := Lib.hid he
              clear he
              go_wp2
              go_meet
              exact ⟨by rw [HH.out]; first | (simp; done) | (simp [HZ.out]; done) | (simp [HLb.out]; done) | (simp [EE.out]; done) | (simp [HZ.out, HLb.out]; done) | (simp [HZ.out, EE.out]; done) | (simp [HLb.out, EE.out]; done) | (simp [HZ.out, HLb.out, EE.out]; done), hb3⟩
          · go_wp2_with fail
            refine (nameOk_i n hnl _).mono ?_
            rintro e w4 ⟨rfl, hb4⟩
            cases hnm : nameOk n
            · have HM := Lib.hid hnm
              clear hnm
              go_wp2
              go_meet
              exact ⟨by rw [HH.out]; first | (simp; done) | (simp [HZ.out]; done) | (simp [HLb.out]; done) | (simp [HM.out]; done) | (simp [HZ.out, HLb.out]; done) | (simp [HZ.out, HM.out]; done) | (simp [HLb.out, HM.out]; done) | (simp [HZ.out, HLb.out, HM.out]; done), (hb3.trans (hb4.mono hb3.size))⟩
            · have HM := Lib.hid hnm
              have EE := Lib.hid (nameOk_full hnm)
              clear hnm
              go_wp2
              go_meet
              exact ⟨by rw [HH.out]; first | (simp; done) | (simp [HZ.out]; done) | (simp [HLb.out]; done) | (simp [HM.out]; done) | (simp [EE.out]; done) | (simp [HZ.out, HLb.out]; done) | (simp [HZ.out, HM.out]; done) | (simp [HZ.out, EE.out]; done) | (simp [HLb.out, HM.out]; done) | (simp [HLb.out, EE.out]; done) | (simp [HM.out, EE.out]; done) | (simp [HZ.out, HLb.out, HM.out]; done) | (simp [HZ.out, HLb.out, EE.out]; done) | (simp [HZ.out, HM.out, EE.out]; done) | (simp [HLb.out, HM.out, EE.out]; done) | (simp [HZ.out, HLb.out, HM.out, EE.out]; done), (hb3.trans (hb4.mono hb3.size))⟩
    case rest =>
      obtain ⟨rfl, hb2⟩ := hcut
      have Bw2 := Bw.trans (hb2.mono Bw.size)
      replace bA := bA.call hb2
      clear c
      have c := bA.cell
      cases hhd : headOk k n l
      · have EH := Lib.hid hhd
        clear hhd
        go_wp2
        go_ret
        exact ⟨ret_eq (by rw [HA.out, HE.out, EH.out]; rfl), Bw2⟩
      · have EH := Lib.hid hhd
        clear hhd hb2
        by_cases hk : k = 12
        · subst hk
          have KF := kf1 (k := 12) (m := l.length) (kids := kids) (by omega)
          go_wp2_with fail
          refine (kidsOk_i 12 n l kids _ 1 _ (HX.out.below Bw2)).mono ?_
          rintro e w3 ⟨rfl, hb3⟩
          have Bw3 := Bw2.trans (hb3.mono Bw2.size)
          clear c hb3
          go_wp2
          go_ret
          exact ⟨ret_eq (by rw [HA.out, HE.out, EH.out, KF]; rw [show ((kids.length : Int) == 1) = (kids.length == 1) from int_beq _ 1]; rfl), Bw3⟩
        · have hk12 := hk
          clear hk
          by_cases hk : k = 13
          · subst hk
            have KF := kf1 (k := 13) (m := l.length) (kids := kids) (by omega)
            go_wp2_with fail
            refine (kidsOk_i 13 n l kids _ 1 _ (HX.out.below Bw2)).mono ?_
            rintro e w3 ⟨rfl, hb3⟩
            have Bw3 := Bw2.trans (hb3.mono Bw2.size)
            clear c hb3
            go_wp2
            go_ret
            exact ⟨ret_eq (by rw [HA.out, HE.out, EH.out, KF]; rw [show ((kids.length : Int) == 1) = (kids.length == 1) from int_beq _ 1]; rfl), Bw3⟩
          · have hk13 := hk
            clear hk
            by_cases hk : k = 14
            · subst hk
              have KF := kf3 (k := 14) (m := l.length) (kids := kids) rfl
              by_cases h2 : (kids.length : Int) = 2
              · have E2 := Lib.hid (show (kids.length == 2) = true from beq_iff_eq.2 (by omega))
                go_wp2
                go_ret
                exact ⟨ret_eq (by rw [HA.out, HE.out, EH.out, KF]; (first | (simp; done) | (simp [E2.out]; done) | (simp; exact h2) | (simp [E2.out]; exact h2) | (simp; intro e; subst e; exact h2 rfl) | (simp [E2.out]; intro e; subst e; exact h2 rfl) | (simp [h2]; done) | (simp [E2.out, h2]; done))), Bw2⟩
              · have E2 := Lib.hid (show (kids.length == 2) = false from beq_eq_false_iff_ne.2 (by omega))
                go_wp2
                go_ret
                exact ⟨ret_eq (by rw [HA.out, HE.out, EH.out, KF]; (first | (simp; done) | (simp [E2.out]; done) | (simp; exact h2) | (simp [E2.out]; exact h2) | (simp; intro e; subst e; exact h2 rfl) | (simp [E2.out]; intro e; subst e; exact h2 rfl) | (simp [h2]; done) | (simp [E2.out, h2]; done))), Bw2⟩
            · have hk14 := hk
              clear hk
              by_cases hk : k = 15
              · subst hk
                have KF := kf4 (k := 15) (m := l.length) (kids := kids) rfl
                have f0 := cell_regrown (show wc.cell? ⟨w.heap.size, 0, none⟩ = some (.int .i64 15) from c 0)
                have f1 := cell_regrown (show wc.cell? ⟨w.heap.size, 1, none⟩ = some (.string n) from c 1)
                have f2 := cell_regrown (show wc.cell? ⟨w.heap.size, 2, none⟩ = some (.slice A l.length cap) from c 2)
                have f3 := cell_regrown (show wc.cell? ⟨w.heap.size, 3, none⟩ = some (.slice B kids.length cap2) from c 3)
                have HI6 := Lib.hid (inR_len kids.length)
                cases hq : inR 1 (kids.length : Int) 6
                · have EQ := Lib.hid hq
                  have HW := Lib.hid (show ∀ w : World, Calls Tryz.prog 35 #[.int .i64 (kids.length : Int), .int .i64 1, .int .i64 6] w fun e w' => e = .returned (.bool false) ∧ w = w' by intro w; have := within_any (kids.length : Int) 1 6 w; rw [hq] at this; exact this)
                  go_wp2_with fail
                  refine wp_region_quiet_below (by kernel_rfl) (by kernel_rfl) ?_
                  repeat (first | go_big_quiet_step (first | exact regrown_same (sizeT_any _ _ _ _) | exact regrown_same (HW.out _) | exact Calls.regrown_of (kidsOk_i 15 n l kids _ _ _ ((HX.out.below Bw2).below (below_regrown _ _ _)))) | quiet_step (first | exact regrown_same (sizeT_any _ _ _ _) | exact regrown_same (HW.out _) | exact Calls.regrown_of (kidsOk_i 15 n l kids _ _ _ ((HX.out.below Bw2).below (below_regrown _ _ _)))))
                  refine wpQuiet_nil ?_
                  intro w3 hw3
                  have Bw3 := Bw2.trans ((below_of_regrown hw3).mono Bw2.size)
                  clear hw3 f0 f1 f2 f3 c
                  go_wp2
                  go_ret
                  exact ⟨ret_eq (by rw [HA.out, HE.out, EH.out, KF]; rw [← HI6.out, EQ.out]; first | rfl | simp), Bw3⟩
                · have EQ := Lib.hid hq
                  have HW := Lib.hid (show ∀ w : World, Calls Tryz.prog 35 #[.int .i64 (kids.length : Int), .int .i64 1, .int .i64 6] w fun e w' => e = .returned (.bool true) ∧ w = w' by intro w; have := within_any (kids.length : Int) 1 6 w; rw [hq] at this; exact this)
                  go_wp2_with fail
                  refine wp_region_quiet_below (by kernel_rfl) (by kernel_rfl) ?_
                  repeat (first | go_big_quiet_step (first | exact regrown_same (sizeT_any _ _ _ _) | exact regrown_same (HW.out _) | exact Calls.regrown_of (kidsOk_i 15 n l kids _ _ _ ((HX.out.below Bw2).below (below_regrown _ _ _)))) | quiet_step (first | exact regrown_same (sizeT_any _ _ _ _) | exact regrown_same (HW.out _) | exact Calls.regrown_of (kidsOk_i 15 n l kids _ _ _ ((HX.out.below Bw2).below (below_regrown _ _ _)))))
                  refine wpQuiet_nil ?_
                  intro w3 hw3
                  have Bw3 := Bw2.trans ((below_of_regrown hw3).mono Bw2.size)
                  clear hw3 f0 f1 f2 f3 c
                  go_wp2
                  go_ret
                  exact ⟨ret_eq (by rw [HA.out, HE.out, EH.out, KF]; rw [← HI6.out, EQ.out]; first | rfl | simp), Bw3⟩
              · have hk15 := hk
                clear hk
                by_cases hk : k = 16
                · subst hk
                  have KF := kf5 (k := 16) (m := l.length) (kids := kids) rfl
                  have f0 := cell_regrown (show wc.cell? ⟨w.heap.size, 0, none⟩ = some (.int .i64 16) from c 0)
                  have f1 := cell_regrown (show wc.cell? ⟨w.heap.size, 1, none⟩ = some (.string n) from c 1)
                  have f2 := cell_regrown (show wc.cell? ⟨w.heap.size, 2, none⟩ = some (.slice A l.length cap) from c 2)
                  have f3 := cell_regrown (show wc.cell? ⟨w.heap.size, 3, none⟩ = some (.slice B kids.length cap2) from c 3)
                  go_wp2_with fail
                  refine wp_region_quiet_below (by kernel_rfl) (by kernel_rfl) ?_
                  repeat (first | go_big_quiet_step (first | exact regrown_same (sizeS_any _ _ _ _) | exact Calls.regrown_of (kidsOk_i 16 n l kids _ _ _ ((HX.out.below Bw2).below (below_regrown _ _ _)))) | quiet_step (first | exact regrown_same (sizeS_any _ _ _ _) | exact Calls.regrown_of (kidsOk_i 16 n l kids _ _ _ ((HX.out.below Bw2).below (below_regrown _ _ _)))))
                  refine wpQuiet_nil ?_
                  intro w3 hw3
                  have Bw3 := Bw2.trans ((below_of_regrown hw3).mono Bw2.size)
                  clear hw3 f0 f1 f2 f3 c
                  go_wp2
                  go_ret
                  exact ⟨ret_eq (by rw [HA.out, HE.out, EH.out, KF]; rw [← int_beq]; rfl), Bw3⟩
                · have hk16 := hk
                  clear hk
                  by_cases hk : k = 17
                  · subst hk
                    have KF := kf6 (k := 17) (m := l.length) (kids := kids) rfl
                    by_cases h2 : (kids.length : Int) = (l.length : Int)
                    · have E2 := Lib.hid (show (kids.length == l.length) = true from beq_iff_eq.2 (by omega))
                      go_wp2
                      go_ret
                      exact ⟨ret_eq (by rw [HA.out, HE.out, EH.out, KF]; (first | (simp; done) | (simp [E2.out]; done) | (simp; exact h2) | (simp [E2.out]; exact h2) | (simp; intro e; subst e; exact h2 rfl) | (simp [E2.out]; intro e; subst e; exact h2 rfl) | (simp [h2]; done) | (simp [E2.out, h2]; done))), Bw2⟩
                    · have E2 := Lib.hid (show (kids.length == l.length) = false from beq_eq_false_iff_ne.2 (by omega))
                      go_wp2
                      go_ret
                      exact ⟨ret_eq (by rw [HA.out, HE.out, EH.out, KF]; (first | (simp; done) | (simp [E2.out]; done) | (simp; exact h2) | (simp [E2.out]; exact h2) | (simp; intro e; subst e; exact h2 rfl) | (simp [E2.out]; intro e; subst e; exact h2 rfl) | (simp [h2]; done) | (simp [E2.out, h2]; done))), Bw2⟩
                  · have hk17 := hk
                    clear hk
                    by_cases hk : k = 22
                    · subst hk
                      have KF := kf2 (k := 22) (m := l.length) (kids := kids) (by omega)
                      by_cases h2 : (kids.length : Int) = 1
                      · have E2 := Lib.hid (show (kids.length == 1) = true from beq_iff_eq.2 (by omega))
                        have hkl : kids.length = 1 := by omega
                        obtain ⟨x, hx⟩ : ∃ x, kids = [x] := List.length_eq_one_iff.1 hkl
                        subst hx
                        obtain ⟨b, off, u0, u1, u2, u3, rfl, -, hbl, hat, c0, c1, c2, c3⟩ := rows_at4 Ty.len HV.out (i := 0) (x := x) rfl
                        replace c0 := (Bw2.cell (p := ⟨b, off + 0 * 4, none⟩) hbl).trans c0
                        replace c1 := (Bw2.cell (p := ⟨b, off + 0 * 4 + 1, none⟩) hbl).trans c1
                        replace c2 := (Bw2.cell (p := ⟨b, off + 0 * 4 + 2, none⟩) hbl).trans c2
                        replace c3 := (Bw2.cell (p := ⟨b, off + 0 * 4 + 3, none⟩) hbl).trans c3
                        simp only [Nat.zero_mul, Nat.add_zero] at c0 c1 c2 c3
                        have HT := Lib.hid (hat.below Bw2)
                        clear hat
                        go_wp2_with fail
                        refine (hasKind_i [21] x _ _ _ _ (kinds1 _ 21 (by omega) _) (HT.out.below ((Below.refl _ _).alloc (Nat.le_refl _) _))).mono ?_
                        rintro e w3 ⟨rfl, hb3⟩
                        have Bw3 := Bw2.trans (((Below.refl _ _).alloc (Nat.le_refl _) _).trans (hb3.mono (by simp)) |>.mono Bw2.size)
                        rw [mem21]
                        cases h3 : x.has fun q => q == 21
                        all_goals
                          have E3 := Lib.hid h3
                          clear h3 hb3 c c0 c1 c2 c3
                          go_wp2
                          go_ret
                          exact ⟨ret_eq (by rw [HA.out, HE.out, EH.out, KF]; (first | (simp; done) | (simp [E3.out]; done))), Bw3⟩
                      · have E2 := Lib.hid (show (kids.length == 1) = false from beq_eq_false_iff_ne.2 (by omega))
                        go_wp2
                        go_ret
                        exact ⟨ret_eq (by rw [HA.out, HE.out, EH.out, KF]; (first | (simp; done) | (simp [E2.out]; done) | (simp; exact h2) | (simp [E2.out]; exact h2) | (simp; intro e; subst e; exact h2 rfl) | (simp [E2.out]; intro e; subst e; exact h2 rfl) | (simp [h2]; done) | (simp [E2.out, h2]; done))), Bw2⟩
                    · have hk22 := hk
                      clear hk
                      by_cases hk : k = 23
                      · subst hk
                        have KF := kf2 (k := 23) (m := l.length) (kids := kids) (by omega)
                        by_cases h2 : (kids.length : Int) = 1
                        · have E2 := Lib.hid (show (kids.length == 1) = true from beq_iff_eq.2 (by omega))
                          have hkl : kids.length = 1 := by omega
                          obtain ⟨x, hx⟩ : ∃ x, kids = [x] := List.length_eq_one_iff.1 hkl
                          subst hx
                          obtain ⟨b, off, u0, u1, u2, u3, rfl, -, hbl, hat, c0, c1, c2, c3⟩ := rows_at4 Ty.len HV.out (i := 0) (x := x) rfl
                          replace c0 := (Bw2.cell (p := ⟨b, off + 0 * 4, none⟩) hbl).trans c0
                          replace c1 := (Bw2.cell (p := ⟨b, off + 0 * 4 + 1, none⟩) hbl).trans c1
                          replace c2 := (Bw2.cell (p := ⟨b, off + 0 * 4 + 2, none⟩) hbl).trans c2
                          replace c3 := (Bw2.cell (p := ⟨b, off + 0 * 4 + 3, none⟩) hbl).trans c3
                          simp only [Nat.zero_mul, Nat.add_zero] at c0 c1 c2 c3
                          have HT := Lib.hid (hat.below Bw2)
                          clear hat
                          go_wp2_with fail
                          refine (hasKind_i [21] x _ _ _ _ (kinds1 _ 21 (by omega) _) (HT.out.below ((Below.refl _ _).alloc (Nat.le_refl _) _))).mono ?_
                          rintro e w3 ⟨rfl, hb3⟩
                          have Bw3 := Bw2.trans (((Below.refl _ _).alloc (Nat.le_refl _) _).trans (hb3.mono (by simp)) |>.mono Bw2.size)
                          rw [mem21]
                          cases h3 : x.has fun q => q == 21
                          all_goals
                            have E3 := Lib.hid h3
                            clear h3 hb3 c c0 c1 c2 c3
                            go_wp2
                            go_ret
                            exact ⟨ret_eq (by rw [HA.out, HE.out, EH.out, KF]; (first | (simp; done) | (simp [E3.out]; done))), Bw3⟩
                        · have E2 := Lib.hid (show (kids.length == 1) = false from beq_eq_false_iff_ne.2 (by omega))
                          go_wp2
                          go_ret
                          exact ⟨ret_eq (by rw [HA.out, HE.out, EH.out, KF]; (first | (simp; done) | (simp [E2.out]; done) | (simp; exact h2) | (simp [E2.out]; exact h2) | (simp; intro e; subst e; exact h2 rfl) | (simp [E2.out]; intro e; subst e; exact h2 rfl) | (simp [h2]; done) | (simp [E2.out, h2]; done))), Bw2⟩
                      · have hk23 := hk
                        clear hk
                        have hk : ¬ (k = 12 ∨ k = 13 ∨ k = 22 ∨ k = 23 ∨ k = 14 ∨ k = 15 ∨ k = 16 ∨ k = 17) := by omega
                        clear hk12 hk13 hk14 hk15 hk16 hk17 hk22 hk23
                        have KF := kf7 (k := k) (m := l.length) (kids := kids) hk
                        have g12 : (k == 12) = false := beq_eq_false_iff_ne.2 (by omega)
                        have g13 : (k == 13) = false := beq_eq_false_iff_ne.2 (by omega)
                        have g22 : (k == 22) = false := beq_eq_false_iff_ne.2 (by omega)
                        have g23 : (k == 23) = false := beq_eq_false_iff_ne.2 (by omega)
                        have g14 : (k == 14) = false := beq_eq_false_iff_ne.2 (by omega)
                        have g15 : (k == 15) = false := beq_eq_false_iff_ne.2 (by omega)
                        have g16 : (k == 16) = false := beq_eq_false_iff_ne.2 (by omega)
                        have g17 : (k == 17) = false := beq_eq_false_iff_ne.2 (by omega)
                        have HK := Lib.hid hk
                        clear hk
                        cases h1 : inR 1 k 23
                        · have E1 := Lib.hid h1
                          go_wp2_with fail
                          refine (within_any _ _ _ _).mono ?_
                          rintro e w3 ⟨rfl, rfl⟩
                          rw [h1]
                          clear h1
                          go_wp2
                          go_ret
                          exact ⟨ret_eq (by rw [HA.out, HE.out, EH.out, KF, E1.out]; simp), Bw2⟩
                        · have E1 := Lib.hid h1
                          by_cases h2 : (kids.length : Int) = 0
                          · have E2 := Lib.hid (show (kids.length == 0) = true from beq_iff_eq.2 (by omega))
                            go_wp2_with fail
                            refine (within_any _ _ _ _).mono ?_
                            rintro e w3 ⟨rfl, rfl⟩
                            rw [h1]
                            clear h1
                            go_wp2
                            go_ret
                            exact ⟨ret_eq (by rw [HA.out, HE.out, EH.out, KF, E1.out]; (first | (simp; done) | (simp [E2.out]; done) | (simp; exact h2) | (simp [E2.out]; exact h2) | (simp; intro e; subst e; exact h2 rfl) | (simp [E2.out]; intro e; subst e; exact h2 rfl) | (simp [h2]; done) | (simp [E2.out, h2]; done))), Bw2⟩
                          · have E2 := Lib.hid (show (kids.length == 0) = false from beq_eq_false_iff_ne.2 (by omega))
                            go_wp2_with fail
                            refine (within_any _ _ _ _).mono ?_
                            rintro e w3 ⟨rfl, rfl⟩
                            rw [h1]
                            clear h1
                            go_wp2
                            go_ret
                            exact ⟨ret_eq (by rw [HA.out, HE.out, EH.out, KF, E1.out]; (first | (simp; done) | (simp [E2.out]; done) | (simp; exact h2) | (simp [E2.out]; exact h2) | (simp; intro e; subst e; exact h2 rfl) | (simp [E2.out]; intro e; subst e; exact h2 rfl) | (simp [h2]; done) | (simp [E2.out, h2]; done))), Bw2⟩

end Go.Proofs.YtcpadaelgdmipaaGreatDoor
