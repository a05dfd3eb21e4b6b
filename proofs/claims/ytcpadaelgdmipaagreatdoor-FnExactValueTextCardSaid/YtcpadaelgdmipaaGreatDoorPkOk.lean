/- One part of a type fits, its kids too: by the program. One part of a type fits, its kids too: by the program. One part of a type fits, its kids too: by the program. How deep a type is and how many parts it has: by the program. A type is valid: by the program. -/
import Derived.Test.YtcpadaelgdmipaaGreatDoorTyShapeP
import Derived.Test.YtcpadaelgdmipaaGreatDoorTyKids
import Derived.Test.YtcpadaelgdmipaaGreatDoorTyLab
import Derived.Deep.DeepCutAuto
import Derived.Deep.QuietTactic
import Derived.BigQuiet
import Derived.Test.YtcpadaelgdmipaaGreatDoorTyPlain
import Derived.Test.YtcpadaelgdmipaaGreatDoorCore
namespace Go.Proofs.YtcpadaelgdmipaaGreatDoor
open Go.RowKit Go.Shelf

theorem int_beq (a b : Nat) : ((a : Int) == (b : Int)) = (a == b) := by
  rw [Bool.eq_iff_iff, beq_iff_eq, beq_iff_eq]; omega
theorem inR_len (a : Nat) : inR 1 (a : Int) 6 = (decide (1 ≤ a) && decide (a ≤ 6)) := by
  rw [Bool.eq_iff_iff, inR_iff]; simp; omega
theorem all_any (q : Ty → Bool) (l : List Ty) : l.all q = !(l.any fun y => !q y) := by
  rw [Bool.eq_iff_iff]; simp
theorem nameOk_full {n : ByteArray} (h : nameOk n = true) : n.toList.isEmpty = false := by
  cases he : n.toList.isEmpty
  · rfl
  · have e : n.toList = [] := by simpa using he
    rw [byteList] at e
    have hs : n.size = 0 := by
      show n.data.size = 0
      rw [← Array.length_toList, e]
      rfl
    have := nameOk_end (k := 0) (by omega) (fun i hi => absurd hi (by omega)) (s := n)
    rw [this, hs] at h
    simp at h
theorem mem21 : memK [21] = fun q => q == 21 := by
  funext q; simp [memK]
theorem mem2021 : memK [20, 21] = fun q => inR 20 q 21 := by
  funext q
  rw [Bool.eq_iff_iff, inR_iff]
  simp [memK]
  omega
theorem kinds1 (w : World) (a : Int) (h : -9223372036854775808 ≤ a ∧ a ≤ 9223372036854775807) (t : TypeId) : D.At (w.alloc (.cells #[.int .i64 a] t)) anyB (rows intD 1 [a]) (.slice (some ⟨w.heap.size, 0, none⟩) 1 1) := by
  unfold rows
  simp only [D.At]
  refine ⟨_, _, [.int .i64 a], rfl, by simp, by unfold maxLen; omega, rfl, fun _ => ⟨_, _, rfl, trivial, by simp, fun j u hu => ?_⟩, ?_⟩
  · have := Box.cell (Box.new w t [.int .i64 a]) (0 + j)
    rw [this]
    simpa using hu
  · exact .cons (.mk_int h) .nil
theorem kinds2 (w : World) (a b : Int) (h : -9223372036854775808 ≤ a ∧ a ≤ 9223372036854775807) (h' : -9223372036854775808 ≤ b ∧ b ≤ 9223372036854775807) (t : TypeId) : D.At (w.alloc (.cells #[.int .i64 a, .int .i64 b] t)) anyB (rows intD 1 [a, b]) (.slice (some ⟨w.heap.size, 0, none⟩) 2 2) := by
  unfold rows
  simp only [D.At]
  refine ⟨_, _, [.int .i64 a, .int .i64 b], rfl, by simp, by unfold maxLen; simp, rfl, fun _ => ⟨_, _, rfl, trivial, by simp, fun j u hu => ?_⟩, ?_⟩
  · have := Box.cell (Box.new w t [.int .i64 a, .int .i64 b]) (0 + j)
    rw [this]
    simpa using hu
  · exact .cons (.mk_int h) (.cons (.mk_int h') .nil)
end Go.Proofs.YtcpadaelgdmipaaGreatDoor
namespace Go.Proofs.YtcpadaelgdmipaaGreatDoor
open Go.RowKit Go.Shelf

set_option maxHeartbeats 8000000 in
set_option maxRecDepth 20000 in
theorem shapeOk_i1 (k : Int) (n : ByteArray) (l : List ByteArray) (kids : List Ty) (cs : List Value) (w : World) (hl0 : 0 < l.length) (hcs : D.Ats w anyB (Ty.ds (.mk k n l kids)) cs) (hi : ∀ x ∈ kids, IsPr 101 Ty.ds (fun y => !Ty.all shape y) #[] (fun _ => True) x) :
    Calls Tryz.prog 85 #[.agg cs.toArray] w fun e w' => e = .returned (.bool (Ty.all shape (.mk k n l kids))) ∧ Below w.heap.size w w' := by
  have HE := Lib.hid (shape_mk k n l kids)
  have HI := Lib.hid hi
  have HAA := Lib.hid (show Ty.all shape (.mk k n l kids) = (!(kids.any fun y => !Ty.all shape y) && shape (.mk k n l kids)) by rw [Ty.all_mk, all_any, Bool.and_comm])
  obtain ⟨A, cap, B, cap2, rfl, -, hnl, hl, hk⟩ := Ty.open_ hcs
  obtain ⟨-, hn, hc⟩ := rows_bound hk
  obtain ⟨-, hn', hc'⟩ := rows_bound hl
  unfold maxLen at hc hc'
  have HX := Lib.hid hcs
  have HV := Lib.hid hk
  have HL := Lib.hid hl
  clear hcs hl hk hi
  have hl0i : (0 : Int) < (l.length : Int) := by omega
  obtain ⟨N, hN⟩ : ∃ N, isNamed k = N := ⟨_, rfl⟩
  obtain ⟨Lb, hLb⟩ : ∃ Lb, isLabelled k = Lb := ⟨_, rfl⟩
  have HNL := Lib.hid (And.intro hN hLb)
  clear hN hLb
  go_enter Tryz.func85, Tryz.ntmps85
  go_wp2_with fail
  refine (containsFunc0 101 _ kids HI.out (enters_of Tryz.func101 (by kernel_rfl) rfl) _ _ _ (HV.out.below ((Below.refl _ _).alloc (Nat.le_refl _) _))).mono ?_
  rintro e w1 ⟨rfl, hb1⟩
  obtain ⟨B1, bA⟩ := box1 (cA := [_, _, _, _]) hb1
  clear hb1
  cases h1 : kids.any fun y => !Ty.all shape y
  case true =>
    have E1 := Lib.hid h1
    clear h1
    go_wp2
    go_ret
    exact ⟨ret_eq (by rw [HAA.out, E1.out]; rfl), B1⟩
  have HA := Lib.hid (show Ty.all shape (.mk k n l kids) = shape (.mk k n l kids) by rw [HAA.out, h1]; rfl)
  clear h1
  have c := bA.cell
  go_wp2_with fail
  refine (within_any _ _ _ _).mono ?_
  rintro e w2 ⟨rfl, rfl⟩
  rw [show inR 16 k 19 = Lb from HNL.out.2]
  go_upto_region 4 with fail
  go_cut [4] (fun s wr => s = .bool N ∧ Below w1.heap.size w1 wr)
  case first =>
    cases h20 : (k == 20)
    · cases h21 : (k == 21)
      all_goals
        have E := Lib.hid (And.intro h20 h21)
        go_wp2
        go_meet
        exact ⟨by rw [← HNL.out.1]; unfold isNamed; rw [E.out.1, E.out.2]; rfl, Below.refl _ _⟩
    · have E := Lib.hid h20
      go_wp2
      go_meet
      exact ⟨by rw [← HNL.out.1]; unfold isNamed; rw [E.out]; rfl, Below.refl _ _⟩
  case rest =>
    obtain ⟨rfl, hb⟩ := hcut
    have Bw := B1.trans (hb.mono B1.size)
    replace bA := bA.call hb
    clear c
    have c := bA.cell
    go_upto_region 5 with fail
    go_cut [53] (fun s wx => s = .bool (!headOk k n l) ∧ Below wc.heap.size wc wx)
    case first =>
      have HH := Lib.hid (show headOk k n l = ((N == !n.toList.isEmpty) && ((!N || nameOk n) && ((Lb == decide (0 < l.length)) && (!Lb || labelsOk l)))) by unfold headOk; rw [HNL.out.1, HNL.out.2])
      have HZ := Lib.hid (show decide (0 < l.length) = true from decide_eq_true hl0)
      clear HNL
      cases Lb
      · go_wp2
        go_meet
        exact ⟨by rw [HH.out]; first | (simp; done) | (simp [HZ.out]; done), Below.refl _ _⟩
      · go_wp2_with fail
        refine (labelsOk_i l _ _ _ (HL.out.below Bw)).mono ?_
        rintro e w3 ⟨rfl, hb3⟩
        cases hlb : labelsOk l
        · have HLb := Lib.hid hlb
          clear hlb
          go_wp2
          go_meet
          exact ⟨by rw [HH.out]; first | (simp; done) | (simp [HZ.out]; done) | (simp [HLb.out]; done) | (simp [HZ.out, HLb.out]; done), hb3⟩
        · have HLb := Lib.hid hlb
          clear hlb c
          have c3 := (bA.call hb3).cell
          cases N
          · cases he : n.toList.isEmpty
            · have e1 := he
              first | simp only [List.isEmpty_iff] at e1 | simp only [List.isEmpty_eq_false_iff] at e1
              have EE := Lib.hid he
              clear he
              go_wp2
              go_meet
              exact ⟨by rw [HH.out]; first | (simp; done) | (simp [HZ.out]; done) | (simp [HLb.out]; done) | (simp [EE.out]; done) | (simp [HZ.out, HLb.out]; done) | (simp [HZ.out, EE.out]; done) | (simp [HLb.out, EE.out]; done) | (simp [HZ.out, HLb.out, EE.out]; done), hb3⟩
            · have e1 := he
              first | simp only [List.isEmpty_iff] at e1 | simp only [List.isEmpty_eq_false_iff] at e1
              have EE := Lib.hid he
              clear he
              go_wp2
              go_meet
              exact ⟨by rw [HH.out]; first | (simp; done) | (simp [HZ.out]; done) | (simp [HLb.out]; done) | (simp [EE.out]; done) | (simp [HZ.out, HLb.out]; done) | (simp [HZ.out, EE.out]; done) | (simp [HLb.out, EE.out]; done) | (simp [HZ.out, HLb.out, EE.out]; done), hb3⟩
          · go_wp2_with fail
            refine (nameOk_i n hnl _).mono ?_
            rintro e w4 ⟨rfl, hb4⟩
            cases hnm : nameOk n
            · have HM := Lib.hid hnm
              clear hnm
              go_wp2
              go_meet
              exact ⟨by rw [HH.out]; first | (simp; done) | (simp [HZ.out]; done) | (simp [HLb.out]; done) | (simp [HM.out]; done) | (simp [HZ.out, HLb.out]; done) | (simp [HZ.out, HM.out]; done) | (simp [HLb.out, HM.out]; done) | (simp [HZ.out, HLb.out, HM.out]; done), (hb3.trans (hb4.mono hb3.size))⟩
            · have HM := Lib.hid hnm
              have EE := Lib.hid (nameOk_full hnm)
              clear hnm
              go_wp2
              go_meet
              exact ⟨by rw [HH.out]; first | (simp; done) | (simp [HZ.out]; done) | (simp [HLb.out]; done) | (simp [HM.out]; done) | (simp [EE.out]; done) | (simp [HZ.out, HLb.out]; done) | (simp [HZ.out, HM.out]; done) | (simp [HZ.out, EE.out]; done) | (simp [HLb.out, HM.out]; done) | (simp [HLb.out, EE.out]; done) | (simp [HM.out, EE.out]; done) | (simp [HZ.out, HLb.out, HM.out]; done) | (simp [HZ.out, HLb.out, EE.out]; done) | (simp [HZ.out, HM.out, EE.out]; done) | (simp [HLb.out, HM.out, EE.out]; done) | (simp [HZ.out, HLb.out, HM.out, EE.out]; done), (hb3.trans (hb4.mono hb3.size))⟩
    case rest =>
      obtain ⟨rfl, hb2⟩ := hcut
      have Bw2 := Bw.trans (hb2.mono Bw.size)
      replace bA := bA.call hb2
      clear c
      have c := bA.cell
      cases hhd : headOk k n l
      · have EH := Lib.hid hhd
        clear hhd
        go_wp2
        go_ret
        exact ⟨ret_eq (by rw [HA.out, HE.out, EH.out]; rfl), Bw2⟩
      · have EH := Lib.hid hhd
        clear hhd hb2
        by_cases hk : k = 12
        · subst hk
          have KF := kf1 (k := 12) (m := l.length) (kids := kids) (by omega)
          go_wp2_with fail
          refine (kidsOk_i 12 n l kids _ 1 _ (HX.out.below Bw2)).mono ?_
          rintro e w3 ⟨rfl, hb3⟩
          have Bw3 := Bw2.trans (hb3.mono Bw2.size)
          clear c hb3
          go_wp2
          go_ret
          exact ⟨ret_eq (by rw [HA.out, HE.out, EH.out, KF]; rw [show ((kids.length : Int) == 1) = (kids.length == 1) from int_beq _ 1]; rfl), Bw3⟩
        · have hk12 := hk
          clear hk
          by_cases hk : k = 13
          · subst hk
            have KF := kf1 (k := 13) (m := l.length) (kids := kids) (by omega)
            go_wp2_with fail
            refine (kidsOk_i 13 n l kids _ 1 _ (HX.out.below Bw2)).mono ?_
            rintro e w3 ⟨rfl, hb3⟩
            have Bw3 := Bw2.trans (hb3.mono Bw2.size)
            clear c hb3
            go_wp2
            go_ret
            exact ⟨ret_eq (by rw [HA.out, HE.out, EH.out, KF]; rw [show ((kids.length : Int) == 1) = (kids.length == 1) from int_beq _ 1]; rfl), Bw3⟩
          · have hk13 := hk
            clear hk
            by_cases hk : k = 14
            · subst hk
              have KF := kf3 (k := 14) (m := l.length) (kids := kids) rfl
              by_cases h2 : (kids.length : Int) = 2
              · have E2 := Lib.hid (show (kids.length == 2) = true from beq_iff_eq.2 (by omega))
                go_wp2
                go_ret
                exact ⟨ret_eq (by rw [HA.out, HE.out, EH.out, KF]; (first | (simp; done) | (simp [E2.out]; done) | (simp; exact h2) | (simp [E2.out]; exact h2) | (simp; intro e; subst e; exact h2 rfl) | (simp [E2.out]; intro e; subst e; exact h2 rfl) | (simp [h2]; done) | (simp [E2.out, h2]; done))), Bw2⟩
              · have E2 := Lib.hid (show (kids.length == 2) = false from beq_eq_false_iff_ne.2 (by omega))
                go_wp2
                go_ret
                exact ⟨ret_eq (by rw [HA.out, HE.out, EH.out, KF]; (first | (simp; done) | (simp [E2.out]; done) | (simp; exact h2) | (simp [E2.out]; exact h2) | (simp; intro e; subst e; exact h2 rfl) | (simp [E2.out]; intro e; subst e; exact h2 rfl) | (simp [h2]; done) | (simp [E2.out, h2]; done))), Bw2⟩
            · have hk14 := hk
              clear hk
              by_cases hk : k = 15
              · subst hk
                have KF := kf4 (k := 15) (m := l.length) (kids := kids) rfl
                have f0 := cell_regrown (show wc.cell? ⟨w.heap.size, 0, none⟩ = some (.int .i64 15) from c 0)
                have f1 := cell_regrown (show wc.cell? ⟨w.heap.size, 1, none⟩ = some (.string n) from c 1)
                have f2 := cell_regrown (show wc.cell? ⟨w.heap.size, 2, none⟩ = some (.slice A l.length cap) from c 2)
                have f3 := cell_regrown (show wc.cell? ⟨w.heap.size, 3, none⟩ = some (.slice B kids.length cap2) from c 3)
                have HI6 := Lib.hid (inR_len kids.length)
                cases hq : inR 1 (kids.length : Int) 6
                · have EQ := Lib.hid hq
                  have HW := Lib.hid (show ∀ w : World, Calls Tryz.prog 35 #[.int .i64 (kids.length : Int), .int .i64 1, .int .i64 6] w fun e w' => e = .returned (.bool false) ∧ w = w' by intro w; have := within_any (kids.length : Int) 1 6 w; rw [hq] at this; exact this)
                  go_wp2_with fail
                  refine wp_region_quiet_below (by kernel_rfl) (by kernel_rfl) ?_
                  repeat (first | go_big_quiet_step (first | exact regrown_same (sizeT_any _ _ _ _) | exact regrown_same (HW.out _) | exact Calls.regrown_of (kidsOk_i 15 n l kids _ _ _ ((HX.out.below Bw2).below (below_regrown _ _ _)))) | quiet_step (first | exact regrown_same (sizeT_any _ _ _ _) | exact regrown_same (HW.out _) | exact Calls.regrown_of (kidsOk_i 15 n l kids _ _ _ ((HX.out.below Bw2).below (below_regrown _ _ _)))))
                  refine wpQuiet_nil ?_
                  intro w3 hw3
                  have Bw3 := Bw2.trans ((below_of_regrown hw3).mono Bw2.size)
                  clear hw3 f0 f1 f2 f3 c
                  go_wp2
                  go_ret
                  exact ⟨ret_eq (by rw [HA.out, HE.out, EH.out, KF]; rw [← HI6.out, EQ.out]; first | rfl | simp), Bw3⟩
                · have EQ := Lib.hid hq
                  have HW := Lib.hid (show ∀ w : World, Calls Tryz.prog 35 #[.int .i64 (kids.length : Int), .int .i64 1, .int .i64 6] w fun e w' => e = .returned (.bool true) ∧ w = w' by intro w; have := within_any (kids.length : Int) 1 6 w; rw [hq] at this; exact this)
                  go_wp2_with fail
                  refine wp_region_quiet_below (by kernel_rfl) (by kernel_rfl) ?_
                  repeat (first | go_big_quiet_step (first | exact regrown_same (sizeT_any _ _ _ _) | exact regrown_same (HW.out _) | exact Calls.regrown_of (kidsOk_i 15 n l kids _ _ _ ((HX.out.below Bw2).below (below_regrown _ _ _)))) | quiet_step (first | exact regrown_same (sizeT_any _ _ _ _) | exact regrown_same (HW.out _) | exact Calls.regrown_of (kidsOk_i 15 n l kids _ _ _ ((HX.out.below Bw2).below (below_regrown _ _ _)))))
                  refine wpQuiet_nil ?_
                  intro w3 hw3
                  have Bw3 := Bw2.trans ((below_of_regrown hw3).mono Bw2.size)
                  clear hw3 f0 f1 f2 f3 c
                  go_wp2
                  go_ret
                  exact ⟨ret_eq (by rw [HA.out, HE.out, EH.out, KF]; rw [← HI6.out, EQ.out]; first | rfl | simp), Bw3⟩
              · have hk15 := hk
                clear hk
                by_cases hk : k = 16
                · subst hk
                  have KF := kf5 (k := 16) (m := l.length) (kids := kids) rfl
                  have f0 := cell_regrown (show wc.cell? ⟨w.heap.size, 0, none⟩ = some (.int .i64 16) from c 0)
                  have f1 := cell_regrown (show wc.cell? ⟨w.heap.size, 1, none⟩ = some (.string n) from c 1)
                  have f2 := cell_regrown (show wc.cell? ⟨w.heap.size, 2, none⟩ = some (.slice A l.length cap) from c 2)
                  have f3 := cell_regrown (show wc.cell? ⟨w.heap.size, 3, none⟩ = some (.slice B kids.length cap2) from c 3)
                  go_wp2_with fail
                  refine wp_region_quiet_below (by kernel_rfl) (by kernel_rfl) ?_
                  repeat (first | go_big_quiet_step (first | exact regrown_same (sizeS_any _ _ _ _) | exact Calls.regrown_of (kidsOk_i 16 n l kids _ _ _ ((HX.out.below Bw2).below (below_regrown _ _ _)))) | quiet_step (first | exact regrown_same (sizeS_any _ _ _ _) | exact Calls.regrown_of (kidsOk_i 16 n l kids _ _ _ ((HX.out.below Bw2).below (below_regrown _ _ _)))))
                  refine wpQuiet_nil ?_
                  intro w3 hw3
                  have Bw3 := Bw2.trans ((below_of_regrown hw3).mono Bw2.size)
                  clear hw3 f0 f1 f2 f3 c
                  go_wp2
                  go_ret
                  exact ⟨ret_eq (by rw [HA.out, HE.out, EH.out, KF]; rw [← int_beq]; rfl), Bw3⟩
                · have hk16 := hk
                  clear hk
                  by_cases hk : k = 17
                  · subst hk
                    have KF := kf6 (k := 17) (m := l.length) (kids := kids) rfl
                    by_cases h2 : (kids.length : Int) = (l.length : Int)
                    · have E2 := Lib.hid (show (kids.length == l.length) = true from beq_iff_eq.2 (by omega))
                      go_wp2
                      go_ret
                      exact ⟨ret_eq (by rw [HA.out, HE.out, EH.out, KF]; (first | (simp; done) | (simp [E2.out]; done) | (simp; exact h2) | (simp [E2.out]; exact h2) | (simp; intro e; subst e; exact h2 rfl) | (simp [E2.out]; intro e; subst e; exact h2 rfl) | (simp [h2]; done) | (simp [E2.out, h2]; done))), Bw2⟩
                    · have E2 := Lib.hid (show (kids.length == l.length) = false from beq_eq_false_iff_ne.2 (by omega))
                      go_wp2
                      go_ret
                      exact ⟨ret_eq (by rw [HA.out, HE.out, EH.out, KF]; (first | (simp; done) | (simp [E2.out]; done) | (simp; exact h2) | (simp [E2.out]; exact h2) | (simp; intro e; subst e; exact h2 rfl) | (simp [E2.out]; intro e; subst e; exact h2 rfl) | (simp [h2]; done) | (simp [E2.out, h2]; done))), Bw2⟩
                  · have hk17 := hk
                    clear hk
                    by_cases hk : k = 22
                    · subst hk
                      have KF := kf2 (k := 22) (m := l.length) (kids := kids) (by omega)
                      by_cases h2 : (kids.length : Int) = 1
                      · have E2 := Lib.hid (show (kids.length == 1) = true from beq_iff_eq.2 (by omega))
                        have hkl : kids.length = 1 := by omega
                        obtain ⟨x, hx⟩ : ∃ x, kids = [x] := List.length_eq_one_iff.1 hkl
                        subst hx
                        obtain ⟨b, off, u0, u1, u2, u3, rfl, -, hbl, hat, c0, c1, c2, c3⟩ := rows_at4 Ty.len HV.out (i := 0) (x := x) rfl
                        replace c0 := (Bw2.cell (p := ⟨b, off + 0 * 4, none⟩) hbl).trans c0
                        replace c1 := (Bw2.cell (p := ⟨b, off + 0 * 4 + 1, none⟩) hbl).trans c1
                        replace c2 := (Bw2.cell (p := ⟨b, off + 0 * 4 + 2, none⟩) hbl).trans c2
                        replace c3 := (Bw2.cell (p := ⟨b, off + 0 * 4 + 3, none⟩) hbl).trans c3
                        simp only [Nat.zero_mul, Nat.add_zero] at c0 c1 c2 c3
                        have HT := Lib.hid (hat.below Bw2)
                        clear hat
                        go_wp2_with fail
                        refine (hasKind_i [21] x _ _ _ _ (kinds1 _ 21 (by omega) _) (HT.out.below ((Below.refl _ _).alloc (Nat.le_refl _) _))).mono ?_
                        rintro e w3 ⟨rfl, hb3⟩
                        have Bw3 := Bw2.trans (((Below.refl _ _).alloc (Nat.le_refl _) _).trans (hb3.mono (by simp)) |>.mono Bw2.size)
                        rw [mem21]
                        cases h3 : x.has fun q => q == 21
                        all_goals
                          have E3 := Lib.hid h3
                          clear h3 hb3 c c0 c1 c2 c3
                          go_wp2
                          go_ret
                          exact ⟨ret_eq (by rw [HA.out, HE.out, EH.out, KF]; (first | (simp; done) | (simp [E3.out]; done))), Bw3⟩
                      · have E2 := Lib.hid (show (kids.length == 1) = false from beq_eq_false_iff_ne.2 (by omega))
                        go_wp2
                        go_ret
                        exact ⟨ret_eq (by rw [HA.out, HE.out, EH.out, KF]; (first | (simp; done) | (simp [E2.out]; done) | (simp; exact h2) | (simp [E2.out]; exact h2) | (simp; intro e; subst e; exact h2 rfl) | (simp [E2.out]; intro e; subst e; exact h2 rfl) | (simp [h2]; done) | (simp [E2.out, h2]; done))), Bw2⟩
                    · have hk22 := hk
                      clear hk
                      by_cases hk : k = 23
                      · subst hk
                        have KF := kf2 (k := 23) (m := l.length) (kids := kids) (by omega)
                        by_cases h2 : (kids.length : Int) = 1
                        · have E2 := Lib.hid (show (kids.length == 1) = true from beq_iff_eq.2 (by omega))
                          have hkl : kids.length = 1 := by omega
                          obtain ⟨x, hx⟩ : ∃ x, kids = [x] := List.length_eq_one_iff.1 hkl
                          subst hx
                          obtain ⟨b, off, u0, u1, u2, u3, rfl, -, hbl, hat, c0, c1, c2, c3⟩ := rows_at4 Ty.len HV.out (i := 0) (x := x) rfl
                          replace c0 := (Bw2.cell (p := ⟨b, off + 0 * 4, none⟩) hbl).trans c0
                          replace c1 := (Bw2.cell (p := ⟨b, off + 0 * 4 + 1, none⟩) hbl).trans c1
                          replace c2 := (Bw2.cell (p := ⟨b, off + 0 * 4 + 2, none⟩) hbl).trans c2
                          replace c3 := (Bw2.cell (p := ⟨b, off + 0 * 4 + 3, none⟩) hbl).trans c3
                          simp only [Nat.zero_mul, Nat.add_zero] at c0 c1 c2 c3
                          have HT := Lib.hid (hat.below Bw2)
                          clear hat
                          go_wp2_with fail
                          refine (hasKind_i [21] x _ _ _ _ (kinds1 _ 21 (by omega) _) (HT.out.below ((Below.refl _ _).alloc (Nat.le_refl _) _))).mono ?_
                          rintro e w3 ⟨rfl, hb3⟩
                          have Bw3 := Bw2.trans (((Below.refl _ _).alloc (Nat.le_refl _) _).trans (hb3.mono (by simp)) |>.mono Bw2.size)
                          rw [mem21]
                          cases h3 : x.has fun q => q == 21
                          all_goals
                            have E3 := Lib.hid h3
                            clear h3 hb3 c c0 c1 c2 c3
                            go_wp2
                            go_ret
                            exact ⟨ret_eq (by rw [HA.out, HE.out, EH.out, KF]; (first | (simp; done) | (simp [E3.out]; done))), Bw3⟩
                        · have E2 := Lib.hid (show (kids.length == 1) = false from beq_eq_false_iff_ne.2 (by omega))
                          go_wp2
                          go_ret
                          exact ⟨ret_eq (by rw [HA.out, HE.out, EH.out, KF]; (first | (simp; done) | (simp [E2.out]; done) | (simp; exact h2) | (simp [E2.out]; exact h2) | (simp; intro e; subst e; exact h2 rfl) | (simp [E2.out]; intro e; subst e; exact h2 rfl) | (simp [h2]; done) | (simp [E2.out, h2]; done))), Bw2⟩
                      · have hk23 := hk
                        clear hk
                        have hk : ¬ (k = 12 ∨ k = 13 ∨ k = 22 ∨ k = 23 ∨ k = 14 ∨ k = 15 ∨ k = 16 ∨ k = 17) := by omega
                        clear hk12 hk13 hk14 hk15 hk16 hk17 hk22 hk23
                        have KF := kf7 (k := k) (m := l.length) (kids := kids) hk
                        have g12 : (k == 12) = false := beq_eq_false_iff_ne.2 (by omega)
                        have g13 : (k == 13) = false := beq_eq_false_iff_ne.2 (by omega)
                        have g22 : (k == 22) = false := beq_eq_false_iff_ne.2 (by omega)
                        have g23 : (k == 23) = false := beq_eq_false_iff_ne.2 (by omega)
                        have g14 : (k == 14) = false := beq_eq_false_iff_ne.2 (by omega)
                        have g15 : (k == 15) = false := beq_eq_false_iff_ne.2 (by omega)
                        have g16 : (k == 16) = false := beq_eq_false_iff_ne.2 (by omega)
                        have g17 : (k == 17) = false := beq_eq_false_iff_ne.2 (by omega)
                        have HK := Lib.hid hk
                        clear hk
                        cases h1 : inR 1 k 23
                        · have E1 := Lib.hid h1
                          go_wp2_with fail
                          refine (within_any _ _ _ _).mono ?_
                          rintro e w3 ⟨rfl, rfl⟩
                          rw [h1]
                          clear h1
                          go_wp2
                          go_ret
                          exact ⟨ret_eq (by rw [HA.out, HE.out, EH.out, KF, E1.out]; simp), Bw2⟩
                        · have E1 := Lib.hid h1
                          by_cases h2 : (kids.length : Int) = 0
                          · have E2 := Lib.hid (show (kids.length == 0) = true from beq_iff_eq.2 (by omega))
                            go_wp2_with fail
                            refine (within_any _ _ _ _).mono ?_
                            rintro e w3 ⟨rfl, rfl⟩
                            rw [h1]
                            clear h1
                            go_wp2
                            go_ret
                            exact ⟨ret_eq (by rw [HA.out, HE.out, EH.out, KF, E1.out]; (first | (simp; done) | (simp [E2.out]; done) | (simp; exact h2) | (simp [E2.out]; exact h2) | (simp; intro e; subst e; exact h2 rfl) | (simp [E2.out]; intro e; subst e; exact h2 rfl) | (simp [h2]; done) | (simp [E2.out, h2]; done))), Bw2⟩
                          · have E2 := Lib.hid (show (kids.length == 0) = false from beq_eq_false_iff_ne.2 (by omega))
                            go_wp2_with fail
                            refine (within_any _ _ _ _).mono ?_
                            rintro e w3 ⟨rfl, rfl⟩
                            rw [h1]
                            clear h1
                            go_wp2
                            go_ret
                            exact ⟨ret_eq (by rw [HA.out, HE.out, EH.out, KF, E1.out]; (first | (simp; done) | (simp [E2.out]; done) | (simp; exact h2) | (simp [E2.out]; exact h2) | (simp; intro e; subst e; exact h2 rfl) | (simp [E2.out]; intro e; subst e; exact h2 rfl) | (simp [h2]; done) | (simp [E2.out, h2]; done))), Bw2⟩

end Go.Proofs.YtcpadaelgdmipaaGreatDoor
namespace Go.Proofs.YtcpadaelgdmipaaGreatDoor
open Go.RowKit Go.Shelf

set_option maxHeartbeats 8000000 in
set_option maxRecDepth 20000 in
theorem shapeOk_i0 (k : Int) (n : ByteArray) (l : List ByteArray) (kids : List Ty) (cs : List Value) (w : World) (hl0 : l = []) (hcs : D.Ats w anyB (Ty.ds (.mk k n l kids)) cs) (hi : ∀ x ∈ kids, IsPr 101 Ty.ds (fun y => !Ty.all shape y) #[] (fun _ => True) x) :
    Calls Tryz.prog 85 #[.agg cs.toArray] w fun e w' => e = .returned (.bool (Ty.all shape (.mk k n l kids))) ∧ Below w.heap.size w w' := by
  have HE := Lib.hid (shape_mk k n l kids)
  have HI := Lib.hid hi
  have HAA := Lib.hid (show Ty.all shape (.mk k n l kids) = (!(kids.any fun y => !Ty.all shape y) && shape (.mk k n l kids)) by rw [Ty.all_mk, all_any, Bool.and_comm])
  obtain ⟨A, cap, B, cap2, rfl, -, hnl, hl, hk⟩ := Ty.open_ hcs
  obtain ⟨-, hn, hc⟩ := rows_bound hk
  obtain ⟨-, hn', hc'⟩ := rows_bound hl
  unfold maxLen at hc hc'
  have HX := Lib.hid hcs
  have HV := Lib.hid hk
  have HL := Lib.hid hl
  have bL := Lib.hid (show ∀ w1 : World, Below w.heap.size w w1 → Calls Tryz.prog 102 #[.slice A 0 cap] w1 fun e w' => e = .returned (.bool false) ∧ Below w1.heap.size w1 w' by
    intro w1 hw1
    have := labelsOk_i l A cap w1 (hl.below hw1)
    rw [hl0] at this
    exact this)
  clear hcs hl hk hi
  have HLN := Lib.hid hl0
  rw [show l.length = 0 by rw [hl0]; rfl] at *
  clear hl0
  obtain ⟨N, hN⟩ : ∃ N, isNamed k = N := ⟨_, rfl⟩
  obtain ⟨Lb, hLb⟩ : ∃ Lb, isLabelled k = Lb := ⟨_, rfl⟩
  have HNL := Lib.hid (And.intro hN hLb)
  clear hN hLb
  go_enter Tryz.func85, Tryz.ntmps85
  go_wp2_with fail
  refine (containsFunc0 101 _ kids HI.out (enters_of Tryz.func101 (by kernel_rfl) rfl) _ _ _ (HV.out.below ((Below.refl _ _).alloc (Nat.le_refl _) _))).mono ?_
  rintro e w1 ⟨rfl, hb1⟩
  obtain ⟨B1, bA⟩ := box1 (cA := [_, _, _, _]) hb1
  clear hb1
  cases h1 : kids.any fun y => !Ty.all shape y
  case true =>
    have E1 := Lib.hid h1
    clear h1
    go_wp2
    go_ret
    exact ⟨ret_eq (by rw [HAA.out, E1.out]; rfl), B1⟩
  have HA := Lib.hid (show Ty.all shape (.mk k n l kids) = shape (.mk k n l kids) by rw [HAA.out, h1]; rfl)
  clear h1
  have c := bA.cell
  go_wp2_with fail
  refine (within_any _ _ _ _).mono ?_
  rintro e w2 ⟨rfl, rfl⟩
  rw [show inR 16 k 19 = Lb from HNL.out.2]
  go_upto_region 4 with fail
  go_cut [4] (fun s wr => s = .bool N ∧ Below w1.heap.size w1 wr)
  case first =>
    cases h20 : (k == 20)
    · cases h21 : (k == 21)
      all_goals
        have E := Lib.hid (And.intro h20 h21)
        go_wp2
        go_meet
        exact ⟨by rw [← HNL.out.1]; unfold isNamed; rw [E.out.1, E.out.2]; rfl, Below.refl _ _⟩
    · have E := Lib.hid h20
      go_wp2
      go_meet
      exact ⟨by rw [← HNL.out.1]; unfold isNamed; rw [E.out]; rfl, Below.refl _ _⟩
  case rest =>
    obtain ⟨rfl, hb⟩ := hcut
    have Bw := B1.trans (hb.mono B1.size)
    replace bA := bA.call hb
    clear c
    have c := bA.cell
    go_upto_region 5 with fail
    go_cut [53] (fun s wx => s = .bool (!headOk k n l) ∧ Below wc.heap.size wc wx)
    case first =>
      have HH := Lib.hid (show headOk k n l = ((N == !n.toList.isEmpty) && ((!N || nameOk n) && ((Lb == decide (0 < l.length)) && (!Lb || labelsOk l)))) by unfold headOk; rw [HNL.out.1, HNL.out.2])
      have HZ := Lib.hid (show decide (0 < l.length) = false from decide_eq_false (by rw [HLN.out]; simp))
      clear HNL
      cases Lb
      · skip
        cases N
        · cases he : n.toList.isEmpty
          · have e1 := he
            first | simp only [List.isEmpty_iff] at e1 | simp only [List.isEmpty_eq_false_iff] at e1
            have EE := Lib.hid he
            clear he
            go_wp2
            go_meet
            exact ⟨by rw [HH.out]; first | (simp; done) | (simp [HZ.out]; done) | (simp [EE.out]; done) | (simp [HZ.out, EE.out]; done), Below.refl _ _⟩
          · have e1 := he
            first | simp only [List.isEmpty_iff] at e1 | simp only [List.isEmpty_eq_false_iff] at e1
            have EE := Lib.hid he
            clear he
            go_wp2
            go_meet
            exact ⟨by rw [HH.out]; first | (simp; done) | (simp [HZ.out]; done) | (simp [EE.out]; done) | (simp [HZ.out, EE.out]; done), Below.refl _ _⟩
        · go_wp2_with fail
          refine (nameOk_i n hnl _).mono ?_
          rintro e w4 ⟨rfl, hb4⟩
          cases hnm : nameOk n
          · have HM := Lib.hid hnm
            clear hnm
            go_wp2
            go_meet
            exact ⟨by rw [HH.out]; first | (simp; done) | (simp [HZ.out]; done) | (simp [HM.out]; done) | (simp [HZ.out, HM.out]; done), hb4⟩
          · have HM := Lib.hid hnm
            have EE := Lib.hid (nameOk_full hnm)
            clear hnm
            go_wp2
            go_meet
            exact ⟨by rw [HH.out]; first | (simp; done) | (simp [HZ.out]; done) | (simp [HM.out]; done) | (simp [EE.out]; done) | (simp [HZ.out, HM.out]; done) | (simp [HZ.out, EE.out]; done) | (simp [HM.out, EE.out]; done) | (simp [HZ.out, HM.out, EE.out]; done), hb4⟩
      · go_wp2_with fail
        refine (bL.out _ Bw).mono ?_
        rintro e w3 ⟨rfl, hb3⟩
        go_wp2
        go_meet
        exact ⟨by rw [HH.out]; first | (simp; done) | (simp [HZ.out]; done), hb3⟩
    case rest =>
      obtain ⟨rfl, hb2⟩ := hcut
      have Bw2 := Bw.trans (hb2.mono Bw.size)
      replace bA := bA.call hb2
      clear c
      have c := bA.cell
      cases hhd : headOk k n l
      · have EH := Lib.hid hhd
        clear hhd
        go_wp2
        go_ret
        exact ⟨ret_eq (by rw [HA.out, HE.out, EH.out]; rfl), Bw2⟩
      · have EH := Lib.hid hhd
        clear hhd hb2
        by_cases hk : k = 12
        · subst hk
          have KF := kf1 (k := 12) (m := 0) (kids := kids) (by omega)
          go_wp2_with fail
          refine (kidsOk_i 12 n l kids _ 1 _ (HX.out.below Bw2)).mono ?_
          rintro e w3 ⟨rfl, hb3⟩
          have Bw3 := Bw2.trans (hb3.mono Bw2.size)
          clear c hb3
          go_wp2
          go_ret
          exact ⟨ret_eq (by rw [HA.out, HE.out, EH.out, KF]; rw [show ((kids.length : Int) == 1) = (kids.length == 1) from int_beq _ 1]; rfl), Bw3⟩
        · have hk12 := hk
          clear hk
          by_cases hk : k = 13
          · subst hk
            have KF := kf1 (k := 13) (m := 0) (kids := kids) (by omega)
            go_wp2_with fail
            refine (kidsOk_i 13 n l kids _ 1 _ (HX.out.below Bw2)).mono ?_
            rintro e w3 ⟨rfl, hb3⟩
            have Bw3 := Bw2.trans (hb3.mono Bw2.size)
            clear c hb3
            go_wp2
            go_ret
            exact ⟨ret_eq (by rw [HA.out, HE.out, EH.out, KF]; rw [show ((kids.length : Int) == 1) = (kids.length == 1) from int_beq _ 1]; rfl), Bw3⟩
          · have hk13 := hk
            clear hk
            by_cases hk : k = 14
            · subst hk
              have KF := kf3 (k := 14) (m := 0) (kids := kids) rfl
              by_cases h2 : (kids.length : Int) = 2
              · have E2 := Lib.hid (show (kids.length == 2) = true from beq_iff_eq.2 (by omega))
                go_wp2
                go_ret
                exact ⟨ret_eq (by rw [HA.out, HE.out, EH.out, KF]; (first | (simp; done) | (simp [E2.out]; done) | (simp; exact h2) | (simp [E2.out]; exact h2) | (simp; intro e; subst e; exact h2 rfl) | (simp [E2.out]; intro e; subst e; exact h2 rfl) | (simp [h2]; done) | (simp [E2.out, h2]; done))), Bw2⟩
              · have E2 := Lib.hid (show (kids.length == 2) = false from beq_eq_false_iff_ne.2 (by omega))
                go_wp2
                go_ret
                exact ⟨ret_eq (by rw [HA.out, HE.out, EH.out, KF]; (first | (simp; done) | (simp [E2.out]; done) | (simp; exact h2) | (simp [E2.out]; exact h2) | (simp; intro e; subst e; exact h2 rfl) | (simp [E2.out]; intro e; subst e; exact h2 rfl) | (simp [h2]; done) | (simp [E2.out, h2]; done))), Bw2⟩
            · have hk14 := hk
              clear hk
              by_cases hk : k = 15
              · subst hk
                have KF := kf4 (k := 15) (m := 0) (kids := kids) rfl
                have f0 := cell_regrown (show wc.cell? ⟨w.heap.size, 0, none⟩ = some (.int .i64 15) from c 0)
                have f1 := cell_regrown (show wc.cell? ⟨w.heap.size, 1, none⟩ = some (.string n) from c 1)
                have f2 := cell_regrown (show wc.cell? ⟨w.heap.size, 2, none⟩ = some (.slice A 0 cap) from c 2)
                have f3 := cell_regrown (show wc.cell? ⟨w.heap.size, 3, none⟩ = some (.slice B kids.length cap2) from c 3)
                have HI6 := Lib.hid (inR_len kids.length)
                cases hq : inR 1 (kids.length : Int) 6
                · have EQ := Lib.hid hq
                  have HW := Lib.hid (show ∀ w : World, Calls Tryz.prog 35 #[.int .i64 (kids.length : Int), .int .i64 1, .int .i64 6] w fun e w' => e = .returned (.bool false) ∧ w = w' by intro w; have := within_any (kids.length : Int) 1 6 w; rw [hq] at this; exact this)
                  go_wp2_with fail
                  refine wp_region_quiet_below (by kernel_rfl) (by kernel_rfl) ?_
                  repeat (first | go_big_quiet_step (first | exact regrown_same (sizeT_any _ _ _ _) | exact regrown_same (HW.out _) | exact Calls.regrown_of (kidsOk_i 15 n l kids _ _ _ ((HX.out.below Bw2).below (below_regrown _ _ _)))) | quiet_step (first | exact regrown_same (sizeT_any _ _ _ _) | exact regrown_same (HW.out _) | exact Calls.regrown_of (kidsOk_i 15 n l kids _ _ _ ((HX.out.below Bw2).below (below_regrown _ _ _)))))
                  refine wpQuiet_nil ?_
                  intro w3 hw3
                  have Bw3 := Bw2.trans ((below_of_regrown hw3).mono Bw2.size)
                  clear hw3 f0 f1 f2 f3 c
                  go_wp2
                  go_ret
                  exact ⟨ret_eq (by rw [HA.out, HE.out, EH.out, KF]; rw [← HI6.out, EQ.out]; first | rfl | simp), Bw3⟩
                · have EQ := Lib.hid hq
                  have HW := Lib.hid (show ∀ w : World, Calls Tryz.prog 35 #[.int .i64 (kids.length : Int), .int .i64 1, .int .i64 6] w fun e w' => e = .returned (.bool true) ∧ w = w' by intro w; have := within_any (kids.length : Int) 1 6 w; rw [hq] at this; exact this)
                  go_wp2_with fail
                  refine wp_region_quiet_below (by kernel_rfl) (by kernel_rfl) ?_
                  repeat (first | go_big_quiet_step (first | exact regrown_same (sizeT_any _ _ _ _) | exact regrown_same (HW.out _) | exact Calls.regrown_of (kidsOk_i 15 n l kids _ _ _ ((HX.out.below Bw2).below (below_regrown _ _ _)))) | quiet_step (first | exact regrown_same (sizeT_any _ _ _ _) | exact regrown_same (HW.out _) | exact Calls.regrown_of (kidsOk_i 15 n l kids _ _ _ ((HX.out.below Bw2).below (below_regrown _ _ _)))))
                  refine wpQuiet_nil ?_
                  intro w3 hw3
                  have Bw3 := Bw2.trans ((below_of_regrown hw3).mono Bw2.size)
                  clear hw3 f0 f1 f2 f3 c
                  go_wp2
                  go_ret
                  exact ⟨ret_eq (by rw [HA.out, HE.out, EH.out, KF]; rw [← HI6.out, EQ.out]; first | rfl | simp), Bw3⟩
              · have hk15 := hk
                clear hk
                by_cases hk : k = 16
                · subst hk
                  exact absurd EH.out (by rw [HLN.out]; simp [headOk, isLabelled, inR])
                · have hk16 := hk
                  clear hk
                  by_cases hk : k = 17
                  · subst hk
                    exact absurd EH.out (by rw [HLN.out]; simp [headOk, isLabelled, inR])
                  · have hk17 := hk
                    clear hk
                    by_cases hk : k = 22
                    · subst hk
                      have KF := kf2 (k := 22) (m := 0) (kids := kids) (by omega)
                      by_cases h2 : (kids.length : Int) = 1
                      · have E2 := Lib.hid (show (kids.length == 1) = true from beq_iff_eq.2 (by omega))
                        have hkl : kids.length = 1 := by omega
                        obtain ⟨x, hx⟩ : ∃ x, kids = [x] := List.length_eq_one_iff.1 hkl
                        subst hx
                        obtain ⟨b, off, u0, u1, u2, u3, rfl, -, hbl, hat, c0, c1, c2, c3⟩ := rows_at4 Ty.len HV.out (i := 0) (x := x) rfl
                        replace c0 := (Bw2.cell (p := ⟨b, off + 0 * 4, none⟩) hbl).trans c0
                        replace c1 := (Bw2.cell (p := ⟨b, off + 0 * 4 + 1, none⟩) hbl).trans c1
                        replace c2 := (Bw2.cell (p := ⟨b, off + 0 * 4 + 2, none⟩) hbl).trans c2
                        replace c3 := (Bw2.cell (p := ⟨b, off + 0 * 4 + 3, none⟩) hbl).trans c3
                        simp only [Nat.zero_mul, Nat.add_zero] at c0 c1 c2 c3
                        have HT := Lib.hid (hat.below Bw2)
                        clear hat
                        go_wp2_with fail
                        refine (hasKind_i [21] x _ _ _ _ (kinds1 _ 21 (by omega) _) (HT.out.below ((Below.refl _ _).alloc (Nat.le_refl _) _))).mono ?_
                        rintro e w3 ⟨rfl, hb3⟩
                        have Bw3 := Bw2.trans (((Below.refl _ _).alloc (Nat.le_refl _) _).trans (hb3.mono (by simp)) |>.mono Bw2.size)
                        rw [mem21]
                        cases h3 : x.has fun q => q == 21
                        all_goals
                          have E3 := Lib.hid h3
                          clear h3 hb3 c c0 c1 c2 c3
                          go_wp2
                          go_ret
                          exact ⟨ret_eq (by rw [HA.out, HE.out, EH.out, KF]; (first | (simp; done) | (simp [E3.out]; done))), Bw3⟩
                      · have E2 := Lib.hid (show (kids.length == 1) = false from beq_eq_false_iff_ne.2 (by omega))
                        go_wp2
                        go_ret
                        exact ⟨ret_eq (by rw [HA.out, HE.out, EH.out, KF]; (first | (simp; done) | (simp [E2.out]; done) | (simp; exact h2) | (simp [E2.out]; exact h2) | (simp; intro e; subst e; exact h2 rfl) | (simp [E2.out]; intro e; subst e; exact h2 rfl) | (simp [h2]; done) | (simp [E2.out, h2]; done))), Bw2⟩
                    · have hk22 := hk
                      clear hk
                      by_cases hk : k = 23
                      · subst hk
                        have KF := kf2 (k := 23) (m := 0) (kids := kids) (by omega)
                        by_cases h2 : (kids.length : Int) = 1
                        · have E2 := Lib.hid (show (kids.length == 1) = true from beq_iff_eq.2 (by omega))
                          have hkl : kids.length = 1 := by omega
                          obtain ⟨x, hx⟩ : ∃ x, kids = [x] := List.length_eq_one_iff.1 hkl
                          subst hx
                          obtain ⟨b, off, u0, u1, u2, u3, rfl, -, hbl, hat, c0, c1, c2, c3⟩ := rows_at4 Ty.len HV.out (i := 0) (x := x) rfl
                          replace c0 := (Bw2.cell (p := ⟨b, off + 0 * 4, none⟩) hbl).trans c0
                          replace c1 := (Bw2.cell (p := ⟨b, off + 0 * 4 + 1, none⟩) hbl).trans c1
                          replace c2 := (Bw2.cell (p := ⟨b, off + 0 * 4 + 2, none⟩) hbl).trans c2
                          replace c3 := (Bw2.cell (p := ⟨b, off + 0 * 4 + 3, none⟩) hbl).trans c3
                          simp only [Nat.zero_mul, Nat.add_zero] at c0 c1 c2 c3
                          have HT := Lib.hid (hat.below Bw2)
                          clear hat
                          go_wp2_with fail
                          refine (hasKind_i [21] x _ _ _ _ (kinds1 _ 21 (by omega) _) (HT.out.below ((Below.refl _ _).alloc (Nat.le_refl _) _))).mono ?_
                          rintro e w3 ⟨rfl, hb3⟩
                          have Bw3 := Bw2.trans (((Below.refl _ _).alloc (Nat.le_refl _) _).trans (hb3.mono (by simp)) |>.mono Bw2.size)
                          rw [mem21]
                          cases h3 : x.has fun q => q == 21
                          all_goals
                            have E3 := Lib.hid h3
                            clear h3 hb3 c c0 c1 c2 c3
                            go_wp2
                            go_ret
                            exact ⟨ret_eq (by rw [HA.out, HE.out, EH.out, KF]; (first | (simp; done) | (simp [E3.out]; done))), Bw3⟩
                        · have E2 := Lib.hid (show (kids.length == 1) = false from beq_eq_false_iff_ne.2 (by omega))
                          go_wp2
                          go_ret
                          exact ⟨ret_eq (by rw [HA.out, HE.out, EH.out, KF]; (first | (simp; done) | (simp [E2.out]; done) | (simp; exact h2) | (simp [E2.out]; exact h2) | (simp; intro e; subst e; exact h2 rfl) | (simp [E2.out]; intro e; subst e; exact h2 rfl) | (simp [h2]; done) | (simp [E2.out, h2]; done))), Bw2⟩
                      · have hk23 := hk
                        clear hk
                        have hk : ¬ (k = 12 ∨ k = 13 ∨ k = 22 ∨ k = 23 ∨ k = 14 ∨ k = 15 ∨ k = 16 ∨ k = 17) := by omega
                        clear hk12 hk13 hk14 hk15 hk16 hk17 hk22 hk23
                        have KF := kf7 (k := k) (m := 0) (kids := kids) hk
                        have g12 : (k == 12) = false := beq_eq_false_iff_ne.2 (by omega)
                        have g13 : (k == 13) = false := beq_eq_false_iff_ne.2 (by omega)
                        have g22 : (k == 22) = false := beq_eq_false_iff_ne.2 (by omega)
                        have g23 : (k == 23) = false := beq_eq_false_iff_ne.2 (by omega)
                        have g14 : (k == 14) = false := beq_eq_false_iff_ne.2 (by omega)
                        have g15 : (k == 15) = false := beq_eq_false_iff_ne.2 (by omega)
                        have g16 : (k == 16) = false := beq_eq_false_iff_ne.2 (by omega)
                        have g17 : (k == 17) = false := beq_eq_false_iff_ne.2 (by omega)
                        have HK := Lib.hid hk
                        clear hk
                        cases h1 : inR 1 k 23
                        · have E1 := Lib.hid h1
                          go_wp2_with fail
                          refine (within_any _ _ _ _).mono ?_
                          rintro e w3 ⟨rfl, rfl⟩
                          rw [h1]
                          clear h1
                          go_wp2
                          go_ret
                          exact ⟨ret_eq (by rw [HA.out, HE.out, EH.out, KF, E1.out]; simp), Bw2⟩
                        · have E1 := Lib.hid h1
                          by_cases h2 : (kids.length : Int) = 0
                          · have E2 := Lib.hid (show (kids.length == 0) = true from beq_iff_eq.2 (by omega))
                            go_wp2_with fail
                            refine (within_any _ _ _ _).mono ?_
                            rintro e w3 ⟨rfl, rfl⟩
                            rw [h1]
                            clear h1
                            go_wp2
                            go_ret
                            exact ⟨ret_eq (by rw [HA.out, HE.out, EH.out, KF, E1.out]; (first | (simp; done) | (simp [E2.out]; done) | (simp; exact h2) | (simp [E2.out]; exact h2) | (simp; intro e; subst e; exact h2 rfl) | (simp [E2.out]; intro e; subst e; exact h2 rfl) | (simp [h2]; done) | (simp [E2.out, h2]; done))), Bw2⟩
                          · have E2 := Lib.hid (show (kids.length == 0) = false from beq_eq_false_iff_ne.2 (by omega))
                            go_wp2_with fail
                            refine (within_any _ _ _ _).mono ?_
                            rintro e w3 ⟨rfl, rfl⟩
                            rw [h1]
                            clear h1
                            go_wp2
                            go_ret
                            exact ⟨ret_eq (by rw [HA.out, HE.out, EH.out, KF, E1.out]; (first | (simp; done) | (simp [E2.out]; done) | (simp; exact h2) | (simp [E2.out]; exact h2) | (simp; intro e; subst e; exact h2 rfl) | (simp [E2.out]; intro e; subst e; exact h2 rfl) | (simp [h2]; done) | (simp [E2.out, h2]; done))), Bw2⟩

end Go.Proofs.YtcpadaelgdmipaaGreatDoor
namespace Go.Proofs.YtcpadaelgdmipaaGreatDoor
open Go.RowKit

set_option maxHeartbeats 2000000 in
set_option maxRecDepth 20000 in
theorem deep_i (j : Nat) : ∀ (x : Ty) (cs : List Value) (d : Int) (w : World), d = j → j ≤ 4 → D.Ats w anyB x.ds cs →
    Calls Tryz.prog 83 #[.agg cs.toArray, .int .i64 d] w fun e w' => e = .returned (.int .i64 ((min x.deep (j + 1) : Nat) : Int)) ∧ Below w.heap.size w w' := by
  induction j with
  | zero =>
    intro x cs d w hd _ hcs
    obtain rfl : d = 0 := by omega
    have e1 : min x.deep (0 + 1) = 1 := by have := x.deep_pos; omega
    rw [e1]
    obtain ⟨k, n, l, kids⟩ := x
    clear e1 hd
    obtain ⟨A, cap, B, cap2, rfl, -, -, hl, hk⟩ := Ty.open_ hcs
    clear hcs hl hk
    go_enter Tryz.func83, Tryz.ntmps83
    go_wp2
    go_ret
    exact ⟨rfl, (by repeat (first | exact Below.refl _ _ | refine Below.alloc ?_ (by first | omega | (simp <;> omega)) _))⟩
  | succ j ih =>
    intro x cs d w hd hj hcs
    have hd1 : (d == 0) = false := beq_eq_false_iff_ne.2 (by omega)
    have hd2 : 1 ≤ d := by omega
    have hd3 : d ≤ 4 := by omega
    obtain ⟨k, n, l, kids⟩ := x
    obtain ⟨A, cap, B, cap2, rfl, -, -, hl, hk⟩ := Ty.open_ hcs
    obtain ⟨-, hn, hc⟩ := rows_bound hk
    unfold maxLen at hc
    have HV := Lib.hid hk
    have HL := Lib.hid (And.intro hd hj)
    have HI := Lib.hid ih
    clear hcs hl hk hj hd ih
    go_enter Tryz.func83, Tryz.ntmps83
    go_wp2
    go_loopw [5, 7, 13] (fun most _ i wr => ∃ q m : Nat, q ≤ kids.length ∧ i = .int .i64 q ∧ most = .int .i64 m ∧ m = min (Ty.deeps (kids.take q)) (j + 1) ∧ Below (w.alloc (.cells #[.int .i64 k, .string n, .slice A l.length cap, .slice B kids.length cap2] 40)).heap.size (w.alloc (.cells #[.int .i64 k, .string n, .slice A l.length cap, .slice B kids.length cap2] 40)) wr) (fun _ _ i _ => kids.length - (intOf i).toNat)
    case atStart => exact ⟨0, 0, Nat.zero_le _, rfl, rfl, by simp [Ty.deeps], Below.refl _ _⟩
    case round =>
      obtain ⟨q, m, hq, rfl, rfl, hm, hb⟩ := hrel
      obtain ⟨Bw, bA⟩ := box1 (cA := [_, _, _, _]) hb
      have HM := Lib.hid hm
      have hm5 : m ≤ 5 := by have := HL.out; omega
      clear hm bA
      by_cases hlt : q < kids.length
      · have HX : ∃ x, kids[q]? = some x := ⟨kids[q], List.getElem?_eq_getElem hlt⟩
        obtain ⟨x, hx⟩ := HX
        have hk0 : (0 : Int) ≤ (q : Int) := by omega
        have hk1 : (q : Int) < (kids.length : Int) := by omega
        obtain ⟨b, off, u0, u1, u2, u3, rfl, -, hbl, hat, c0, c1, c2, c3⟩ := rows_at4 Ty.len HV.out hx
        replace c0 := (Bw.cell (p := ⟨b, off + q * 4, none⟩) hbl).trans c0
        replace c1 := (Bw.cell (p := ⟨b, off + q * 4 + 1, none⟩) hbl).trans c1
        replace c2 := (Bw.cell (p := ⟨b, off + q * 4 + 2, none⟩) hbl).trans c2
        replace c3 := (Bw.cell (p := ⟨b, off + q * 4 + 3, none⟩) hbl).trans c3
        have HN := Lib.hid hx
        have hw1 : IntKind.i64.wrap (d - 1) = d - 1 := by rw [IntKind.wrap_i64]; omega
        clear hx
        obtain ⟨z0, z1, z2, z3, z4, z5, z6, z7, e3⟩ := Ty.form hat
        simp only [List.cons.injEq, and_true] at e3
        obtain ⟨rfl, rfl, rfl, rfl⟩ := e3
        go_wp2_with fail
        refine (HI.out x _ _ _ (by have := HL.out.1; omega) (by have := HL.out; omega) ((hat.below Bw).below (by repeat (first | exact Below.refl _ _ | refine Below.alloc ?_ (by first | omega | (simp <;> omega)) _)))).mono ?_
        rintro e w2 ⟨rfl, hb2⟩
        have hb3 := hb.trans (Below.trans ((Below.refl _ _).alloc (Nat.le_refl _) _) (hb2.mono (by simp)) |>.mono hb.size)
        have F := Lib.hid (show max (m : Int) ((min x.deep (j + 1) : Nat) : Int) = ((min (Ty.deeps (kids.take (q + 1))) (j + 1) : Nat) : Int) by rw [Ty.deeps_next HN.out, HM.out]; omega)
        clear c0 c1 c2 c3 hw1 hb2 hb hat Bw
        go_wp2
        go_roundw
        case rel => exact ⟨q + 1, min (Ty.deeps (kids.take (q + 1))) (j + 1), by omega, by go_num, by rw [← F.out], rfl, hb3⟩
        case measure => simp [intOf]; omega
      · obtain rfl : q = kids.length := by omega
        have hm := HM.out
        rw [List.take_length] at hm
        have F := Lib.hid (show ((min (Ty.deep (.mk k n l kids)) (j + 1 + 1) : Nat) : Int) = (m : Int) + 1 by rw [Ty.deep_mk]; omega)
        have hw2 : IntKind.i64.wrap ((m : Int) + 1) = (m : Int) + 1 := by rw [IntKind.wrap_i64]; omega
        clear hm
        go_wp2
        go_ret
        exact ⟨ret_eq (by rw [F.out]; rfl), Bw⟩

set_option maxHeartbeats 2000000 in
set_option maxRecDepth 20000 in
theorem parts_i (x : Ty) : ∀ (cs : List Value) (w : World), D.Ats w anyB x.ds cs → x.parts ≤ 2000000 →
    Calls Tryz.prog 84 #[.agg cs.toArray] w fun e w' => e = .returned (.int .i64 (x.parts : Int)) ∧ Below w.heap.size w w' := by
  induction x using Ty.ind with
  | h k n l kids ih =>
    intro cs w hcs hT
    obtain ⟨A, cap, B, cap2, rfl, -, -, hl, hk⟩ := Ty.open_ hcs
    obtain ⟨-, hn, hc⟩ := rows_bound hk
    unfold maxLen at hc
    have HV := Lib.hid hk
    have HI := Lib.hid ih
    rw [Ty.parts_mk] at hT ⊢
    have hT2 : Ty.partss kids ≤ 1999999 := by omega
    have E := Lib.hid (show ((Ty.partss kids + 1 : Nat) : Int) = ((Ty.partss kids + 1 : Nat) : Int) from rfl)
    clear hcs hl hk ih hT
    go_enter Tryz.func84, Tryz.ntmps84
    go_wp2
    go_loopw [3, 5, 9] (fun most _ i wr => ∃ q m : Nat, q ≤ kids.length ∧ i = .int .i64 q ∧ most = .int .i64 m ∧ m = Ty.partss (kids.take q) + 1 ∧ Below (w.alloc (.cells #[.int .i64 k, .string n, .slice A l.length cap, .slice B kids.length cap2] 40)).heap.size (w.alloc (.cells #[.int .i64 k, .string n, .slice A l.length cap, .slice B kids.length cap2] 40)) wr) (fun _ _ i _ => kids.length - (intOf i).toNat)
    case atStart => exact ⟨0, 1, Nat.zero_le _, rfl, rfl, by simp [Ty.partss], Below.refl _ _⟩
    case round =>
      obtain ⟨q, m, hq, rfl, rfl, hm, hb⟩ := hrel
      obtain ⟨Bw, bA⟩ := box1 (cA := [_, _, _, _]) hb
      have HM := Lib.hid hm
      have hm5 : m ≤ 2000000 := by have := Ty.partss_take kids q; omega
      clear hm bA
      by_cases hlt : q < kids.length
      · have HX : ∃ x, kids[q]? = some x := ⟨kids[q], List.getElem?_eq_getElem hlt⟩
        obtain ⟨x, hx⟩ := HX
        have hk0 : (0 : Int) ≤ (q : Int) := by omega
        have hk1 : (q : Int) < (kids.length : Int) := by omega
        obtain ⟨b, off, u0, u1, u2, u3, rfl, -, hbl, hat, c0, c1, c2, c3⟩ := rows_at4 Ty.len HV.out hx
        replace c0 := (Bw.cell (p := ⟨b, off + q * 4, none⟩) hbl).trans c0
        replace c1 := (Bw.cell (p := ⟨b, off + q * 4 + 1, none⟩) hbl).trans c1
        replace c2 := (Bw.cell (p := ⟨b, off + q * 4 + 2, none⟩) hbl).trans c2
        replace c3 := (Bw.cell (p := ⟨b, off + q * 4 + 3, none⟩) hbl).trans c3
        have HN := Lib.hid hx
        have hpx : x.parts ≤ 2000000 := by have := Ty.parts_mem (List.mem_of_getElem? hx); omega
        have hw1 : IntKind.i64.wrap ((m : Int) + (x.parts : Int)) = (m : Int) + (x.parts : Int) := by rw [IntKind.wrap_i64]; omega
        clear hx
        obtain ⟨z0, z1, z2, z3, z4, z5, z6, z7, e3⟩ := Ty.form hat
        simp only [List.cons.injEq, and_true] at e3
        obtain ⟨rfl, rfl, rfl, rfl⟩ := e3
        go_wp2_with fail
        refine (HI.out x (List.mem_of_getElem? HN.out) _ _ ((hat.below Bw).below (by repeat (first | exact Below.refl _ _ | refine Below.alloc ?_ (by first | omega | (simp <;> omega)) _))) hpx).mono ?_
        rintro e w2 ⟨rfl, hb2⟩
        have hb3 := hb.trans (Below.trans ((Below.refl _ _).alloc (Nat.le_refl _) _) (hb2.mono (by simp)) |>.mono hb.size)
        have F := Lib.hid (show m + x.parts = Ty.partss (kids.take (q + 1)) + 1 by rw [Ty.partss_next HN.out, HM.out]; omega)
        clear c0 c1 c2 c3 hb2 hb hat Bw
        go_wp2
        go_roundw
        case rel => exact ⟨q + 1, m + x.parts, by omega, by go_num, by go_num, F.out, hb3⟩
        case measure => simp [intOf]; omega
      · obtain rfl : q = kids.length := by omega
        have hm := HM.out
        rw [List.take_length] at hm
        have F := Lib.hid hm
        clear hm
        go_wp2
        go_ret
        exact ⟨ret_eq (by rw [← F.out]; rfl), Bw⟩
end Go.Proofs.YtcpadaelgdmipaaGreatDoor
namespace Go.Proofs.YtcpadaelgdmipaaGreatDoor
open Go.RowKit Go.Shelf

set_option maxRecDepth 20000 in
theorem shapeOk_clo (x : Ty) (ih : ∀ (cs : List Value) (w : World), D.Ats w anyB x.ds cs → Calls Tryz.prog 85 #[.agg cs.toArray] w fun e w' => e = .returned (.bool (Ty.all shape x)) ∧ Below w.heap.size w w') :
    IsPr 101 Ty.ds (fun y => !Ty.all shape y) #[] (fun _ => True) x := by
  intro cs w _ hcs
  obtain ⟨k, n, A0, m0, c0, A0', m0', c0', rfl⟩ := Ty.form hcs
  have HA := Lib.hid hcs
  have HI := Lib.hid ih
  clear hcs ih
  go_enter Tryz.func101, Tryz.ntmps101
  go_wp2_with fail
  refine (HI.out _ _ (HA.out.below ((Below.refl _ _).alloc (Nat.le_refl _) _))).mono ?_
  rintro e w1 ⟨rfl, hb1⟩
  obtain ⟨B1, -⟩ := box1 (cA := [_, _, _, _]) hb1
  clear hb1
  cases hs : Ty.all shape x
  all_goals
    have HS := Lib.hid hs
    clear hs
    go_wp2
    go_ret
    exact ⟨ret_eq (by rw [HS.out]; rfl), B1⟩
theorem shapeOk_i (x : Ty) : ∀ (cs : List Value) (w : World), D.Ats w anyB x.ds cs →
    Calls Tryz.prog 85 #[.agg cs.toArray] w fun e w' => e = .returned (.bool (Ty.all shape x)) ∧ Below w.heap.size w w' := by
  induction x using Ty.ind with
  | h k n l kids ih =>
    intro cs w hcs
    have hi := fun x hx => shapeOk_clo x (ih x hx)
    by_cases h : 0 < l.length
    · exact shapeOk_i1 k n l kids cs w h hcs hi
    · exact shapeOk_i0 k n l kids cs w (List.eq_nil_of_length_eq_zero (by omega)) hcs hi

set_option maxHeartbeats 1000000 in
set_option maxRecDepth 20000 in
theorem typeOk_i (x : Ty) (cs : List Value) (w : World) (hcs : D.Ats w anyB x.ds cs) (hp : x.parts ≤ 2000000) :
    Calls Tryz.prog 50 #[.agg cs.toArray] w fun e w' => e = .returned (.bool (tyOk x)) ∧ Below w.heap.size w w' := by
  obtain ⟨m, hm⟩ : ∃ m, min x.deep (4 + 1) = m := ⟨_, rfl⟩
  have HD := Lib.hid (fun (cs : List Value) (w : World) (h : D.Ats w anyB x.ds cs) => deep_i 4 x cs 4 w rfl (Nat.le_refl _) h)
  rw [hm] at HD
  have HX := Lib.hid hcs
  obtain ⟨k, n, A0, m0, c0, A0', m0', c0', rfl⟩ := Ty.form hcs
  clear hcs
  have E0 := Lib.hid (show tyOk x = (decide (x.deep ≤ 4) && (decide (x.parts ≤ 24) && Ty.all shape x)) from rfl)
  go_enter Tryz.func50, Tryz.ntmps50
  go_wp2_with fail
  refine (HD.out _ _ (HX.out.below ((Below.refl _ _).alloc (Nat.le_refl _) _))).mono ?_
  rintro e w1 ⟨rfl, hb1⟩
  obtain ⟨B1, bA⟩ := box1 (cA := [_, _, _, _]) hb1
  clear hb1
  have c := bA.cell
  by_cases h4 : (m : Int) ≤ 4
  · have E1 := Lib.hid (show decide (x.deep ≤ 4) = true from decide_eq_true (by omega))
    clear hm
    go_wp2_with fail
    refine (parts_i x _ _ (HX.out.below B1) hp).mono ?_
    rintro e w2 ⟨rfl, hb2⟩
    have B2 := B1.trans (hb2.mono B1.size)
    replace bA := bA.call hb2
    clear c hb2
    have c := bA.cell
    by_cases h24 : (x.parts : Int) ≤ 24
    · have E2 := Lib.hid (show decide (x.parts ≤ 24) = true from decide_eq_true (by omega))
      go_wp2_with fail
      refine (shapeOk_i x _ _ (HX.out.below B2)).mono ?_
      rintro e w3 ⟨rfl, hb3⟩
      have B3 := B2.trans (hb3.mono B2.size)
      clear c hb3
      go_wp2
      go_ret
      exact ⟨ret_eq (by rw [E0.out, E1.out, E2.out]; rfl), B3⟩
    · have E2 := Lib.hid (show decide (x.parts ≤ 24) = false from decide_eq_false (by omega))
      clear c
      go_wp2
      go_ret
      exact ⟨ret_eq (by rw [E0.out, E1.out, E2.out]; rfl), B2⟩
  · have E1 := Lib.hid (show decide (x.deep ≤ 4) = false from decide_eq_false (by omega))
    clear hm c
    go_wp2
    go_ret
    exact ⟨ret_eq (by rw [E0.out, E1.out]; rfl), B1⟩
end Go.Proofs.YtcpadaelgdmipaaGreatDoor
