/- One part of a type fits: by the reference. -/
import Derived.Test.YtcpadaelgdmipaaGreatDoorTyShapeP
import Derived.Test.YtcpadaelgdmipaaGreatDoorTyHas
import Derived.Test.YtcpadaelgdmipaaGreatDoorTyLab
import Derived.Deep.DeepCutAuto
namespace Go.Proofs.YtcpadaelgdmipaaGreatDoor
open Go.RowKit

set_option maxHeartbeats 8000000 in
set_option maxRecDepth 20000 in
theorem l03Shape_s0 (k : Int) (n : ByteArray) (l : List ByteArray) (kids : List Ty) (cs : List Value) (w : World) (hl0 : l = []) (hcs : D.Ats w anyB (Ty.ds (.mk k n l kids)) cs) :
    Calls Tryz.prog 118 #[.agg cs.toArray] w fun e w' => e = .returned (.bool (shape (.mk k n l kids))) ∧ Below w.heap.size w w' := by
  have HE := Lib.hid (shape_mk k n l kids)
  obtain ⟨A, cap, B, cap2, rfl, -, hnl, hl, hk⟩ := Ty.open_ hcs
  obtain ⟨-, hn, hc⟩ := rows_bound hk
  obtain ⟨-, hn', hc'⟩ := rows_bound hl
  unfold maxLen at hc hc'
  have HX := Lib.hid hcs
  have HV := Lib.hid hk
  have HL := Lib.hid hl
  clear hcs hl hk
  have HLN := Lib.hid hl0
  rw [show l.length = 0 by rw [hl0]; rfl] at *
  clear hl0
  obtain ⟨N, hN⟩ : ∃ N, isNamed k = N := ⟨_, rfl⟩
  obtain ⟨Lb, hLb⟩ : ∃ Lb, isLabelled k = Lb := ⟨_, rfl⟩
  have HNL := Lib.hid (And.intro hN hLb)
  clear hN hLb
  go_enter Tryz.func118, Tryz.ntmps118
  go_upto_region 1 with fail
  go_cut [3] (fun s wr => s = .bool N ∧ Below (w.alloc (.cells #[.int .i64 k, .string n, .slice A 0 cap, .slice B kids.length cap2] 40)).heap.size (w.alloc (.cells #[.int .i64 k, .string n, .slice A 0 cap, .slice B kids.length cap2] 40)) wr)
  case first =>
    cases h20 : (k == 20)
    · cases h21 : (k == 21)
      all_goals
        have E := Lib.hid (And.intro h20 h21)
        go_wp2
        go_meet
        exact ⟨by rw [← HNL.out.1]; unfold isNamed; rw [E.out.1, E.out.2]; rfl, Below.refl _ _⟩
    · have E := Lib.hid h20
      go_wp2
      go_meet
      exact ⟨by rw [← HNL.out.1]; unfold isNamed; rw [E.out]; rfl, Below.refl _ _⟩
  case rest =>
    obtain ⟨rfl, hb⟩ := hcut
    obtain ⟨Bw, bA⟩ := box1 (cA := [_, _, _, _]) hb
    have c := bA.cell
    go_wp2_with fail
    refine (l00In_any _ _ _ _).mono ?_
    rintro e w1 ⟨rfl, rfl⟩
    rw [show inR 16 k 19 = Lb from HNL.out.2]
    go_upto_region 3 with fail
    go_cut [47] (fun s wx => s = .bool (!headOk k n l) ∧ Below wc.heap.size wc wx)
    case first =>
      obtain ⟨hd, hhd⟩ : ∃ hd, headOk k n l = hd := ⟨_, rfl⟩
      have HH := Lib.hid (show headOk k n l = ((N == !n.toList.isEmpty) && ((!N || nameOk n) && ((Lb == decide (0 < l.length)) && (!Lb || labelsOk l)))) by unfold headOk; rw [HNL.out.1, HNL.out.2])
      have HZ := Lib.hid (show decide (0 < l.length) = false from decide_eq_false (by rw [HLN.out]; simp))
      have bN := Lib.hid (l03Name_s n hnl)
      clear hhd hd HNL
      cases he : n.toList.isEmpty
      · have e1 := he
        first | simp only [List.isEmpty_iff] at e1 | simp only [List.isEmpty_eq_false_iff] at e1
        have EE := Lib.hid he
        clear he
        cases N
        · go_wp2
          go_meet
          exact ⟨by rw [HH.out]; first | (simp; done) | (simp [EE.out]; done), Below.refl _ _⟩
        · cases hnm : nameOk n
          · have HM := Lib.hid hnm
            go_wp2_with fail
            refine (bN.out _).mono ?_
            rintro e w2 ⟨rfl, rfl⟩
            rw [hnm]
            clear hnm
            go_wp2
            go_meet
            exact ⟨by rw [HH.out]; first | (simp; done) | (simp [EE.out]; done) | (simp [HM.out]; done) | (simp [EE.out, HM.out]; done), Below.refl _ _⟩
          · have HM := Lib.hid hnm
            cases Lb
            · skip
              go_wp2_with fail
              refine (bN.out _).mono ?_
              rintro e w2 ⟨rfl, rfl⟩
              rw [hnm]
              clear hnm
              go_wp2
              go_meet
              exact ⟨by rw [HH.out]; first | (simp; done) | (simp [EE.out]; done) | (simp [HM.out]; done) | (simp [HZ.out]; done) | (simp [EE.out, HM.out]; done) | (simp [EE.out, HZ.out]; done) | (simp [HM.out, HZ.out]; done) | (simp [EE.out, HM.out, HZ.out]; done), Below.refl _ _⟩
            · skip
              go_wp2_with fail
              refine (bN.out _).mono ?_
              rintro e w2 ⟨rfl, rfl⟩
              rw [hnm]
              clear hnm
              go_wp2
              go_meet
              exact ⟨by rw [HH.out]; first | (simp; done) | (simp [EE.out]; done) | (simp [HM.out]; done) | (simp [HZ.out]; done) | (simp [EE.out, HM.out]; done) | (simp [EE.out, HZ.out]; done) | (simp [HM.out, HZ.out]; done) | (simp [EE.out, HM.out, HZ.out]; done), Below.refl _ _⟩
      · have e1 := he
        first | simp only [List.isEmpty_iff] at e1 | simp only [List.isEmpty_eq_false_iff] at e1
        have EE := Lib.hid he
        clear he
        cases N
        · cases Lb
          · skip
            go_wp2
            go_meet
            exact ⟨by rw [HH.out]; first | (simp; done) | (simp [EE.out]; done) | (simp [HZ.out]; done) | (simp [EE.out, HZ.out]; done), Below.refl _ _⟩
          · skip
            go_wp2
            go_meet
            exact ⟨by rw [HH.out]; first | (simp; done) | (simp [EE.out]; done) | (simp [HZ.out]; done) | (simp [EE.out, HZ.out]; done), Below.refl _ _⟩
        · go_wp2
          go_meet
          exact ⟨by rw [HH.out]; first | (simp; done) | (simp [EE.out]; done), Below.refl _ _⟩
    case rest =>
      obtain ⟨rfl, hb2⟩ := hcut
      have Bw2 := Bw.trans (hb2.mono Bw.size)
      replace bA := bA.call hb2
      clear c
      have c := bA.cell
      cases hhd : headOk k n l
      · have EH := Lib.hid hhd
        clear hhd
        go_wp2
        go_ret
        exact ⟨ret_eq (by rw [HE.out, EH.out]; rfl), Bw2⟩
      · have EH := Lib.hid hhd
        clear hhd hb2
        by_cases hk : k = 12
        · subst hk
          have KF := kf1 (k := 12) (m := 0) (kids := kids) (by omega)
          by_cases h2 : (kids.length : Int) = 1
          · have E2 := Lib.hid (show (kids.length == 1) = true from beq_iff_eq.2 (by omega))
            go_wp2_with fail
            refine (l03Units_s 12 n l kids _ _ (HX.out.below Bw2)).mono ?_
            rintro e w3 ⟨rfl, hb3⟩
            have Bw3 := Bw2.trans (hb3.mono Bw2.size)
            cases h3 : kids.any isU
            all_goals
              have E3 := Lib.hid h3
              clear h3 hb3 c
              go_wp2
              go_ret
              exact ⟨ret_eq (by rw [HE.out, EH.out, KF, E3.out]; (first | (simp; done) | (simp [E2.out]; done) | (simp; exact h2) | (simp [E2.out]; exact h2) | (simp; intro e; subst e; exact h2 rfl) | (simp [E2.out]; intro e; subst e; exact h2 rfl) | (simp [h2]; done) | (simp [E2.out, h2]; done))), Bw3⟩
          · have E2 := Lib.hid (show (kids.length == 1) = false from beq_eq_false_iff_ne.2 (by omega))
            go_wp2
            go_ret
            exact ⟨ret_eq (by rw [HE.out, EH.out, KF]; (first | (simp; done) | (simp [E2.out]; done) | (simp; exact h2) | (simp [E2.out]; exact h2) | (simp; intro e; subst e; exact h2 rfl) | (simp [E2.out]; intro e; subst e; exact h2 rfl) | (simp [h2]; done) | (simp [E2.out, h2]; done))), Bw2⟩
        · have hk12 := hk
          clear hk
          by_cases hk : k = 13
          · subst hk
            have KF := kf1 (k := 13) (m := 0) (kids := kids) (by omega)
            by_cases h2 : (kids.length : Int) = 1
            · have E2 := Lib.hid (show (kids.length == 1) = true from beq_iff_eq.2 (by omega))
              go_wp2_with fail
              refine (l03Units_s 13 n l kids _ _ (HX.out.below Bw2)).mono ?_
              rintro e w3 ⟨rfl, hb3⟩
              have Bw3 := Bw2.trans (hb3.mono Bw2.size)
              cases h3 : kids.any isU
              all_goals
                have E3 := Lib.hid h3
                clear h3 hb3 c
                go_wp2
                go_ret
                exact ⟨ret_eq (by rw [HE.out, EH.out, KF, E3.out]; (first | (simp; done) | (simp [E2.out]; done) | (simp; exact h2) | (simp [E2.out]; exact h2) | (simp; intro e; subst e; exact h2 rfl) | (simp [E2.out]; intro e; subst e; exact h2 rfl) | (simp [h2]; done) | (simp [E2.out, h2]; done))), Bw3⟩
            · have E2 := Lib.hid (show (kids.length == 1) = false from beq_eq_false_iff_ne.2 (by omega))
              go_wp2
              go_ret
              exact ⟨ret_eq (by rw [HE.out, EH.out, KF]; (first | (simp; done) | (simp [E2.out]; done) | (simp; exact h2) | (simp [E2.out]; exact h2) | (simp; intro e; subst e; exact h2 rfl) | (simp [E2.out]; intro e; subst e; exact h2 rfl) | (simp [h2]; done) | (simp [E2.out, h2]; done))), Bw2⟩
          · have hk13 := hk
            clear hk
            by_cases hk : k = 22
            · subst hk
              have KF := kf2 (k := 22) (m := 0) (kids := kids) (by omega)
              by_cases h2 : (kids.length : Int) = 1
              · have E2 := Lib.hid (show (kids.length == 1) = true from beq_iff_eq.2 (by omega))
                have hkl : kids.length = 1 := by omega
                obtain ⟨x, hx⟩ : ∃ x, kids = [x] := List.length_eq_one_iff.1 hkl
                subst hx
                obtain ⟨b, off, u0, u1, u2, u3, rfl, -, hbl, hat, c0, c1, c2, c3⟩ := rows_at4 Ty.len HV.out (i := 0) (x := x) rfl
                replace c0 := (Bw2.cell (p := ⟨b, off + 0 * 4, none⟩) hbl).trans c0
                replace c1 := (Bw2.cell (p := ⟨b, off + 0 * 4 + 1, none⟩) hbl).trans c1
                replace c2 := (Bw2.cell (p := ⟨b, off + 0 * 4 + 2, none⟩) hbl).trans c2
                replace c3 := (Bw2.cell (p := ⟨b, off + 0 * 4 + 3, none⟩) hbl).trans c3
                simp only [Nat.zero_mul, Nat.add_zero] at c0 c1 c2 c3
                have HA := Lib.hid (hat.below Bw2)
                clear hat
                go_wp2_with fail
                refine (l03Has_s 21 21 x _ _ HA.out).mono ?_
                rintro e w3 ⟨rfl, hb3⟩
                have Bw3 := Bw2.trans (hb3.mono Bw2.size)
                rw [hass21]
                cases h3 : x.has fun q => q == 21
                all_goals
                  have E3 := Lib.hid h3
                  clear h3 hb3 c c0 c1 c2 c3
                  go_wp2
                  go_ret
                  exact ⟨ret_eq (by rw [HE.out, EH.out, KF]; (first | (simp; done) | (simp [E3.out]; done))), Bw3⟩
              · have E2 := Lib.hid (show (kids.length == 1) = false from beq_eq_false_iff_ne.2 (by omega))
                go_wp2
                go_ret
                exact ⟨ret_eq (by rw [HE.out, EH.out, KF]; (first | (simp; done) | (simp [E2.out]; done) | (simp; exact h2) | (simp [E2.out]; exact h2) | (simp; intro e; subst e; exact h2 rfl) | (simp [E2.out]; intro e; subst e; exact h2 rfl) | (simp [h2]; done) | (simp [E2.out, h2]; done))), Bw2⟩
            · have hk22 := hk
              clear hk
              by_cases hk : k = 23
              · subst hk
                have KF := kf2 (k := 23) (m := 0) (kids := kids) (by omega)
                by_cases h2 : (kids.length : Int) = 1
                · have E2 := Lib.hid (show (kids.length == 1) = true from beq_iff_eq.2 (by omega))
                  have hkl : kids.length = 1 := by omega
                  obtain ⟨x, hx⟩ : ∃ x, kids = [x] := List.length_eq_one_iff.1 hkl
                  subst hx
                  obtain ⟨b, off, u0, u1, u2, u3, rfl, -, hbl, hat, c0, c1, c2, c3⟩ := rows_at4 Ty.len HV.out (i := 0) (x := x) rfl
                  replace c0 := (Bw2.cell (p := ⟨b, off + 0 * 4, none⟩) hbl).trans c0
                  replace c1 := (Bw2.cell (p := ⟨b, off + 0 * 4 + 1, none⟩) hbl).trans c1
                  replace c2 := (Bw2.cell (p := ⟨b, off + 0 * 4 + 2, none⟩) hbl).trans c2
                  replace c3 := (Bw2.cell (p := ⟨b, off + 0 * 4 + 3, none⟩) hbl).trans c3
                  simp only [Nat.zero_mul, Nat.add_zero] at c0 c1 c2 c3
                  have HA := Lib.hid (hat.below Bw2)
                  clear hat
                  go_wp2_with fail
                  refine (l03Has_s 21 21 x _ _ HA.out).mono ?_
                  rintro e w3 ⟨rfl, hb3⟩
                  have Bw3 := Bw2.trans (hb3.mono Bw2.size)
                  rw [hass21]
                  cases h3 : x.has fun q => q == 21
                  all_goals
                    have E3 := Lib.hid h3
                    clear h3 hb3 c c0 c1 c2 c3
                    go_wp2
                    go_ret
                    exact ⟨ret_eq (by rw [HE.out, EH.out, KF]; (first | (simp; done) | (simp [E3.out]; done))), Bw3⟩
                · have E2 := Lib.hid (show (kids.length == 1) = false from beq_eq_false_iff_ne.2 (by omega))
                  go_wp2
                  go_ret
                  exact ⟨ret_eq (by rw [HE.out, EH.out, KF]; (first | (simp; done) | (simp [E2.out]; done) | (simp; exact h2) | (simp [E2.out]; exact h2) | (simp; intro e; subst e; exact h2 rfl) | (simp [E2.out]; intro e; subst e; exact h2 rfl) | (simp [h2]; done) | (simp [E2.out, h2]; done))), Bw2⟩
              · have hk23 := hk
                clear hk
                by_cases hk : k = 14
                · subst hk
                  have KF := kf3 (k := 14) (m := 0) (kids := kids) rfl
                  by_cases h2 : (kids.length : Int) = 2
                  · have E2 := Lib.hid (show (kids.length == 2) = true from beq_iff_eq.2 (by omega))
                    go_wp2
                    go_ret
                    exact ⟨ret_eq (by rw [HE.out, EH.out, KF]; (first | (simp; done) | (simp [E2.out]; done) | (simp; exact h2) | (simp [E2.out]; exact h2) | (simp; intro e; subst e; exact h2 rfl) | (simp [E2.out]; intro e; subst e; exact h2 rfl) | (simp [h2]; done) | (simp [E2.out, h2]; done))), Bw2⟩
                  · have E2 := Lib.hid (show (kids.length == 2) = false from beq_eq_false_iff_ne.2 (by omega))
                    go_wp2
                    go_ret
                    exact ⟨ret_eq (by rw [HE.out, EH.out, KF]; (first | (simp; done) | (simp [E2.out]; done) | (simp; exact h2) | (simp [E2.out]; exact h2) | (simp; intro e; subst e; exact h2 rfl) | (simp [E2.out]; intro e; subst e; exact h2 rfl) | (simp [h2]; done) | (simp [E2.out, h2]; done))), Bw2⟩
                · have hk14 := hk
                  clear hk
                  by_cases hk : k = 15
                  · subst hk
                    have KF := kf4 (k := 15) (m := 0) (kids := kids) rfl
                    by_cases h1 : (1 : Int) ≤ (kids.length : Int)
                    · by_cases h2 : (kids.length : Int) ≤ 6
                      · have E2 := Lib.hid (And.intro (show decide (1 ≤ kids.length) = true from decide_eq_true (by omega)) (show decide (kids.length ≤ 6) = true from decide_eq_true (by omega)))
                        go_wp2_with fail
                        refine (l03Units_s 15 n l kids _ _ (HX.out.below Bw2)).mono ?_
                        rintro e w3 ⟨rfl, hb3⟩
                        have Bw3 := Bw2.trans (hb3.mono Bw2.size)
                        cases h3 : kids.any isU
                        all_goals
                          have E3 := Lib.hid h3
                          clear h3 hb3 c
                          go_wp2
                          go_ret
                          exact ⟨ret_eq (by rw [HE.out, EH.out, KF, E3.out]; (first | (simp; done) | (simp [E2.out.1]; done) | (simp [E2.out.2]; done) | (simp [E2.out.1, E2.out.2]; done))), Bw3⟩
                      · have E2 := Lib.hid (show decide (kids.length ≤ 6) = false from decide_eq_false (by omega))
                        go_wp2
                        go_ret
                        exact ⟨ret_eq (by rw [HE.out, EH.out, KF]; (first | (simp; done) | (simp [E2.out]; done) | (simp; exact h2) | (simp [E2.out]; exact h2) | (simp; intro e; subst e; exact h2 rfl) | (simp [E2.out]; intro e; subst e; exact h2 rfl))), Bw2⟩
                    · have E2 := Lib.hid (show decide (1 ≤ kids.length) = false from decide_eq_false (by omega))
                      go_wp2
                      go_ret
                      exact ⟨ret_eq (by rw [HE.out, EH.out, KF]; (first | (simp; done) | (simp [E2.out]; done) | (simp; exact h2) | (simp [E2.out]; exact h2) | (simp; intro e; subst e; exact h2 rfl) | (simp [E2.out]; intro e; subst e; exact h2 rfl))), Bw2⟩
                  · have hk15 := hk
                    clear hk
                    by_cases hk : k = 16
                    · subst hk
                      exact absurd EH.out (by rw [HLN.out]; simp [headOk, isLabelled, inR])
                    · have hk16 := hk
                      clear hk
                      by_cases hk : k = 17
                      · subst hk
                        exact absurd EH.out (by rw [HLN.out]; simp [headOk, isLabelled, inR])
                      · have hk17 := hk
                        clear hk
                        have hk : ¬ (k = 12 ∨ k = 13 ∨ k = 22 ∨ k = 23 ∨ k = 14 ∨ k = 15 ∨ k = 16 ∨ k = 17) := by omega
                        clear hk12 hk13 hk22 hk23 hk14 hk15 hk16 hk17
                        have KF := kf7 (k := k) (m := 0) (kids := kids) hk
                        have g12 : (k == 12) = false := beq_eq_false_iff_ne.2 (by omega)
                        have g13 : (k == 13) = false := beq_eq_false_iff_ne.2 (by omega)
                        have g22 : (k == 22) = false := beq_eq_false_iff_ne.2 (by omega)
                        have g23 : (k == 23) = false := beq_eq_false_iff_ne.2 (by omega)
                        have g14 : (k == 14) = false := beq_eq_false_iff_ne.2 (by omega)
                        have g15 : (k == 15) = false := beq_eq_false_iff_ne.2 (by omega)
                        have g16 : (k == 16) = false := beq_eq_false_iff_ne.2 (by omega)
                        have g17 : (k == 17) = false := beq_eq_false_iff_ne.2 (by omega)
                        have HK := Lib.hid hk
                        clear hk
                        cases h1 : inR 1 k 23
                        · have E1 := Lib.hid h1
                          go_wp2_with fail
                          refine (l00In_any _ _ _ _).mono ?_
                          rintro e w3 ⟨rfl, rfl⟩
                          rw [h1]
                          clear h1
                          go_wp2
                          go_ret
                          exact ⟨ret_eq (by rw [HE.out, EH.out, KF, E1.out]; simp), Bw2⟩
                        · have E1 := Lib.hid h1
                          by_cases h2 : (kids.length : Int) = 0
                          · have E2 := Lib.hid (show (kids.length == 0) = true from beq_iff_eq.2 (by omega))
                            go_wp2_with fail
                            refine (l00In_any _ _ _ _).mono ?_
                            rintro e w3 ⟨rfl, rfl⟩
                            rw [h1]
                            clear h1
                            go_wp2
                            go_ret
                            exact ⟨ret_eq (by rw [HE.out, EH.out, KF, E1.out]; (first | (simp; done) | (simp [E2.out]; done) | (simp; exact h2) | (simp [E2.out]; exact h2) | (simp; intro e; subst e; exact h2 rfl) | (simp [E2.out]; intro e; subst e; exact h2 rfl) | (simp [h2]; done) | (simp [E2.out, h2]; done))), Bw2⟩
                          · have E2 := Lib.hid (show (kids.length == 0) = false from beq_eq_false_iff_ne.2 (by omega))
                            go_wp2_with fail
                            refine (l00In_any _ _ _ _).mono ?_
                            rintro e w3 ⟨rfl, rfl⟩
                            rw [h1]
                            clear h1
                            go_wp2
                            go_ret
                            exact ⟨ret_eq (by rw [HE.out, EH.out, KF, E1.out]; (first | (simp; done) | (simp [E2.out]; done) | (simp; exact h2) | (simp [E2.out]; exact h2) | (simp; intro e; subst e; exact h2 rfl) | (simp [E2.out]; intro e; subst e; exact h2 rfl) | (simp [h2]; done) | (simp [E2.out, h2]; done))), Bw2⟩

end Go.Proofs.YtcpadaelgdmipaaGreatDoor
