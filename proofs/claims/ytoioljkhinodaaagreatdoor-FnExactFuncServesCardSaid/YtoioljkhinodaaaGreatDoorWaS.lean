/- Why not, by the reference: numbers, kinds, names. Why not: lists and options. Why not: streams and futures. Why not: results. Why not, by the reference: tuples, records, variants. Why not, by the reference: enums and flags. Why not: the reference's function. -/
import Derived.Test.YtoioljkhinodaaaGreatDoorWaA
import Derived.Deep.RegionHeld3
import Derived.Test.YtoioljkhinodaaaGreatDoorSameTy
import Derived.Deep.DeepCutAuto
import Derived.Test.YtoioljkhinodaaaGreatDoorWaC
import Derived.BigQuiet
namespace Go.Proofs.YtoioljkhinodaaaGreatDoor
open Go.RowKit Go.Shelf

theorem l08Within_s (a b : Int) (w : World) : Calls Tryz.prog 67 #[.int .i64 a, .int .i64 b] w fun e w' => e = .returned (.bool (numIn a b)) ∧ w = w' := by
  have HV := Lib.hid (show numIn a b = (decide ((numRange b).1 ≤ (numRange a).1) && decide ((numRange a).2.1 ≤ (numRange b).2.1)) from rfl)
  have HA := Lib.hid (fun w => numRange_s a w)
  have HB := Lib.hid (fun w => numRange_s b w)
  unfold RetRange at HA HB
  obtain ⟨x, hx⟩ : ∃ x, numRange a = x := ⟨_, rfl⟩
  obtain ⟨y, hy⟩ : ∃ y, numRange b = y := ⟨_, rfl⟩
  obtain ⟨x1, x2, x3⟩ := x
  obtain ⟨y1, y2, y3⟩ := y
  rw [hx] at HA HV
  rw [hy] at HB HV
  clear hx hy
  by_cases g : y1 ≤ x1
  all_goals
    go_enter Tryz.func67, Tryz.ntmps67
    go_wp2_with fail
    refine (HA.out _).mono ?_
    rintro e w1 ⟨rfl, rfl⟩
    go_wp2_with fail
    refine (HB.out _).mono ?_
    rintro e w2 ⟨rfl, rfl⟩
    go_wp2
    exact bodyPost_ret (v := .bool (decide (y1 ≤ x1) && decide (x2 ≤ y2))) (by simp [results, Tryz.results67, go_sem, g] <;> first | assumption | omega) rfl ⟨by rw [HV.out], rfl⟩
set_option maxHeartbeats 4000000 in
set_option maxRecDepth 20000 in
theorem num_in_s (m : Nat) (k k' : Int) (n n' : ByteArray) (l l' : List ByteArray) (kids kids' : List Ty) (t : ByteArray) (cs cs' : List Value) (w : World) (hcs : D.Ats w anyB (Ty.ds (.mk k n l kids)) cs) (hcs' : D.Ats w anyB (Ty.ds (.mk k' n' l' kids')) cs') (h1 : numK k = true) (h2 : numK k' = true) (h3 : numIn k k' = true) :
    Calls Tryz.prog 35 #[.agg cs.toArray, .agg cs'.toArray, .string t] w fun e w' => e = .returned (retR (whyN (m + 1) (.mk k n l kids) (.mk k' n' l' kids') t)) ∧ Below w.heap.size w w' := by
  have HV := Lib.hid (show whyN (m + 1) (.mk k n l kids) (.mk k' n' l' kids') t = none by rw [whyN_eq, if_pos (by rw [h1, h2]; rfl), if_pos h3])
  have HN1 := Lib.hid (fun w => l08Number_s k w)
  have HN2 := Lib.hid (fun w => l08Number_s k' w)
  have HN3 := Lib.hid (fun w => l08Within_s k k' w)
  rw [h1] at HN1
  rw [h2] at HN2
  rw [h3] at HN3
  obtain ⟨A, c, A2, c2, rfl, -, -, -, -⟩ := Ty.open_ hcs
  obtain ⟨A', c', A2', c2', rfl, -, -, -, -⟩ := Ty.open_ hcs'
  obtain ⟨w0, hw0, B0, bA, bB, bC⟩ := blocks3 w 30 30 34 [.int .i64 k, .string n, .slice A l.length c, .slice A2 kids.length c2] [.int .i64 k', .string n', .slice A' l'.length c', .slice A2' kids'.length c2'] [.int .i64 0, .string ⟨#[]⟩]
  clear hcs hcs' h1 h2 h3
  have kA := bA.cell
  have kB := bB.cell
  have j5 := bC.cell
  have l5 := bC.frozen
  change Calls Tryz.prog 35 #[.agg #[.int .i64 k, .string n, .slice A l.length c, .slice A2 kids.length c2], .agg #[.int .i64 k', .string n', .slice A' l'.length c', .slice A2' kids'.length c2'], .string t] w _
  go_enter Tryz.func35, Tryz.ntmps35
  go_upto_region 1 with fail
  rw [← hw0]
  clear hw0
  go_wp2_with (first | (go_at_call 66; (first | (with_reducible refine (HN1.out _).mono ?_) | (with_reducible refine (HN2.out _).mono ?_)); rintro e w9 ⟨rfl, rfl⟩) | (go_at_call 67; refine (HN3.out _).mono ?_; rintro e w8 ⟨rfl, rfl⟩))
  exact bodyPost_ret (v := .tuple #[.agg #[.int .i64 0, .string ⟨#[]⟩], .bool false]) (by simp [results, Tryz.results35, go_sem, j5]) rfl ⟨by rw [HV.out]; rfl, (B0.setCell (by simp <;> omega) _).setCell (by simp <;> omega) _⟩
set_option maxHeartbeats 4000000 in
set_option maxRecDepth 20000 in
theorem num_out_s (m : Nat) (k k' : Int) (n n' : ByteArray) (l l' : List ByteArray) (kids kids' : List Ty) (t : ByteArray) (cs cs' : List Value) (w : World) (hcs : D.Ats w anyB (Ty.ds (.mk k n l kids)) cs) (hcs' : D.Ats w anyB (Ty.ds (.mk k' n' l' kids')) cs') (h1 : numK k = true) (h2 : numK k' = true) (h3 : numIn k k' = false) :
    Calls Tryz.prog 35 #[.agg cs.toArray, .agg cs'.toArray, .string t] w fun e w' => e = .returned (retR (whyN (m + 1) (.mk k n l kids) (.mk k' n' l' kids') t)) ∧ Below w.heap.size w w' := by
  have HV := Lib.hid (show whyN (m + 1) (.mk k n l kids) (.mk k' n' l' kids') t = some (2, t) by rw [whyN_eq, if_pos (by rw [h1, h2]; rfl), if_neg (by rw [h3]; decide)])
  have HN1 := Lib.hid (fun w => l08Number_s k w)
  have HN2 := Lib.hid (fun w => l08Number_s k' w)
  have HN3 := Lib.hid (fun w => l08Within_s k k' w)
  rw [h1] at HN1
  rw [h2] at HN2
  rw [h3] at HN3
  obtain ⟨A, c, A2, c2, rfl, -, -, -, -⟩ := Ty.open_ hcs
  obtain ⟨A', c', A2', c2', rfl, -, -, -, -⟩ := Ty.open_ hcs'
  obtain ⟨w0, hw0, B0, bA, bB, bC⟩ := blocks3 w 30 30 34 [.int .i64 k, .string n, .slice A l.length c, .slice A2 kids.length c2] [.int .i64 k', .string n', .slice A' l'.length c', .slice A2' kids'.length c2'] [.int .i64 0, .string ⟨#[]⟩]
  clear hcs hcs' h1 h2 h3
  have kA := bA.cell
  have kB := bB.cell
  have j5 := bC.cell
  have l5 := bC.frozen
  change Calls Tryz.prog 35 #[.agg #[.int .i64 k, .string n, .slice A l.length c, .slice A2 kids.length c2], .agg #[.int .i64 k', .string n', .slice A' l'.length c', .slice A2' kids'.length c2'], .string t] w _
  go_enter Tryz.func35, Tryz.ntmps35
  go_upto_region 1 with fail
  rw [← hw0]
  clear hw0
  go_wp2_with (first | (go_at_call 66; (first | (with_reducible refine (HN1.out _).mono ?_) | (with_reducible refine (HN2.out _).mono ?_)); rintro e w9 ⟨rfl, rfl⟩) | (go_at_call 67; refine (HN3.out _).mono ?_; rintro e w8 ⟨rfl, rfl⟩))
  refine (l08No_s 2 _ _).mono ?_
  rintro e w3 ⟨rfl, hb3⟩
  have hb4 := B0.trans (hb3.mono B0.size)
  replace bC := bC.call hb3
  clear j5 l5 kA kB
  have j5 := bC.cell
  have l5 := bC.frozen
  go_wp2
  exact bodyPost_ret (v := .tuple #[.agg #[.int .i64 2, .string t], .bool true]) (by simp [results, Tryz.results35, go_sem, j5]) rfl ⟨by rw [HV.out]; rfl, (hb4.setCell (by simp <;> omega) _).setCell (by simp <;> omega) _⟩
set_option maxHeartbeats 4000000 in
set_option maxRecDepth 20000 in
theorem diff00_s (m : Nat) (k k' : Int) (n n' : ByteArray) (l l' : List ByteArray) (kids kids' : List Ty) (t : ByteArray) (cs cs' : List Value) (w : World) (hcs : D.Ats w anyB (Ty.ds (.mk k n l kids)) cs) (hcs' : D.Ats w anyB (Ty.ds (.mk k' n' l' kids')) cs') (h1 : numK k = false) (h2 : numK k' = false) (h3 : ¬ k = k') :
    Calls Tryz.prog 35 #[.agg cs.toArray, .agg cs'.toArray, .string t] w fun e w' => e = .returned (retR (whyN (m + 1) (.mk k n l kids) (.mk k' n' l' kids') t)) ∧ Below w.heap.size w w' := by
  have HV := Lib.hid (show whyN (m + 1) (.mk k n l kids) (.mk k' n' l' kids') t = some (1, t) by rw [whyN_eq, if_neg (by rw [h1, h2]; decide), if_neg h3])
  have g1 : (k != k') = true := by rw [bne_iff_ne]; exact h3
  have g2 : (k == k') = false := beq_eq_false_iff_ne.2 h3
  have HN1 := Lib.hid (fun w => l08Number_s k w)
  have HN2 := Lib.hid (fun w => l08Number_s k' w)
  rw [h1] at HN1
  rw [h2] at HN2
  obtain ⟨A, c, A2, c2, rfl, -, -, -, -⟩ := Ty.open_ hcs
  obtain ⟨A', c', A2', c2', rfl, -, -, -, -⟩ := Ty.open_ hcs'
  obtain ⟨w0, hw0, B0, bA, bB, bC⟩ := blocks3 w 30 30 34 [.int .i64 k, .string n, .slice A l.length c, .slice A2 kids.length c2] [.int .i64 k', .string n', .slice A' l'.length c', .slice A2' kids'.length c2'] [.int .i64 0, .string ⟨#[]⟩]
  clear hcs hcs' h1 h2 h3
  have kA := bA.cell
  have kB := bB.cell
  have j5 := bC.cell
  have l5 := bC.frozen
  change Calls Tryz.prog 35 #[.agg #[.int .i64 k, .string n, .slice A l.length c, .slice A2 kids.length c2], .agg #[.int .i64 k', .string n', .slice A' l'.length c', .slice A2' kids'.length c2'], .string t] w _
  go_enter Tryz.func35, Tryz.ntmps35
  go_upto_region 1 with fail
  rw [← hw0]
  clear hw0
  go_wp2_with (first | (go_at_call 66; (first | (with_reducible refine (HN1.out _).mono ?_) | (with_reducible refine (HN2.out _).mono ?_)); rintro e w9 ⟨rfl, rfl⟩))
  refine (l08No_s 1 _ _).mono ?_
  rintro e w3 ⟨rfl, hb3⟩
  have hb4 := B0.trans (hb3.mono B0.size)
  replace bC := bC.call hb3
  clear j5 l5 kA kB
  have j5 := bC.cell
  have l5 := bC.frozen
  go_wp2
  exact bodyPost_ret (v := .tuple #[.agg #[.int .i64 1, .string t], .bool true]) (by simp [results, Tryz.results35, go_sem, j5]) rfl ⟨by rw [HV.out]; rfl, (hb4.setCell (by simp <;> omega) _).setCell (by simp <;> omega) _⟩
set_option maxHeartbeats 4000000 in
set_option maxRecDepth 20000 in
theorem diff01_s (m : Nat) (k k' : Int) (n n' : ByteArray) (l l' : List ByteArray) (kids kids' : List Ty) (t : ByteArray) (cs cs' : List Value) (w : World) (hcs : D.Ats w anyB (Ty.ds (.mk k n l kids)) cs) (hcs' : D.Ats w anyB (Ty.ds (.mk k' n' l' kids')) cs') (h1 : numK k = false) (h2 : numK k' = true) (h3 : ¬ k = k') :
    Calls Tryz.prog 35 #[.agg cs.toArray, .agg cs'.toArray, .string t] w fun e w' => e = .returned (retR (whyN (m + 1) (.mk k n l kids) (.mk k' n' l' kids') t)) ∧ Below w.heap.size w w' := by
  have HV := Lib.hid (show whyN (m + 1) (.mk k n l kids) (.mk k' n' l' kids') t = some (1, t) by rw [whyN_eq, if_neg (by rw [h1, h2]; decide), if_neg h3])
  have g1 : (k != k') = true := by rw [bne_iff_ne]; exact h3
  have g2 : (k == k') = false := beq_eq_false_iff_ne.2 h3
  have HN1 := Lib.hid (fun w => l08Number_s k w)
  have HN2 := Lib.hid (fun w => l08Number_s k' w)
  rw [h1] at HN1
  rw [h2] at HN2
  obtain ⟨A, c, A2, c2, rfl, -, -, -, -⟩ := Ty.open_ hcs
  obtain ⟨A', c', A2', c2', rfl, -, -, -, -⟩ := Ty.open_ hcs'
  obtain ⟨w0, hw0, B0, bA, bB, bC⟩ := blocks3 w 30 30 34 [.int .i64 k, .string n, .slice A l.length c, .slice A2 kids.length c2] [.int .i64 k', .string n', .slice A' l'.length c', .slice A2' kids'.length c2'] [.int .i64 0, .string ⟨#[]⟩]
  clear hcs hcs' h1 h2 h3
  have kA := bA.cell
  have kB := bB.cell
  have j5 := bC.cell
  have l5 := bC.frozen
  change Calls Tryz.prog 35 #[.agg #[.int .i64 k, .string n, .slice A l.length c, .slice A2 kids.length c2], .agg #[.int .i64 k', .string n', .slice A' l'.length c', .slice A2' kids'.length c2'], .string t] w _
  go_enter Tryz.func35, Tryz.ntmps35
  go_upto_region 1 with fail
  rw [← hw0]
  clear hw0
  go_wp2_with (first | (go_at_call 66; (first | (with_reducible refine (HN1.out _).mono ?_) | (with_reducible refine (HN2.out _).mono ?_)); rintro e w9 ⟨rfl, rfl⟩))
  refine (l08No_s 1 _ _).mono ?_
  rintro e w3 ⟨rfl, hb3⟩
  have hb4 := B0.trans (hb3.mono B0.size)
  replace bC := bC.call hb3
  clear j5 l5 kA kB
  have j5 := bC.cell
  have l5 := bC.frozen
  go_wp2
  exact bodyPost_ret (v := .tuple #[.agg #[.int .i64 1, .string t], .bool true]) (by simp [results, Tryz.results35, go_sem, j5]) rfl ⟨by rw [HV.out]; rfl, (hb4.setCell (by simp <;> omega) _).setCell (by simp <;> omega) _⟩
set_option maxHeartbeats 4000000 in
set_option maxRecDepth 20000 in
theorem diff10_s (m : Nat) (k k' : Int) (n n' : ByteArray) (l l' : List ByteArray) (kids kids' : List Ty) (t : ByteArray) (cs cs' : List Value) (w : World) (hcs : D.Ats w anyB (Ty.ds (.mk k n l kids)) cs) (hcs' : D.Ats w anyB (Ty.ds (.mk k' n' l' kids')) cs') (h1 : numK k = true) (h2 : numK k' = false) (h3 : ¬ k = k') :
    Calls Tryz.prog 35 #[.agg cs.toArray, .agg cs'.toArray, .string t] w fun e w' => e = .returned (retR (whyN (m + 1) (.mk k n l kids) (.mk k' n' l' kids') t)) ∧ Below w.heap.size w w' := by
  have HV := Lib.hid (show whyN (m + 1) (.mk k n l kids) (.mk k' n' l' kids') t = some (1, t) by rw [whyN_eq, if_neg (by rw [h1, h2]; decide), if_neg h3])
  have g1 : (k != k') = true := by rw [bne_iff_ne]; exact h3
  have g2 : (k == k') = false := beq_eq_false_iff_ne.2 h3
  have HN1 := Lib.hid (fun w => l08Number_s k w)
  have HN2 := Lib.hid (fun w => l08Number_s k' w)
  rw [h1] at HN1
  rw [h2] at HN2
  obtain ⟨A, c, A2, c2, rfl, -, -, -, -⟩ := Ty.open_ hcs
  obtain ⟨A', c', A2', c2', rfl, -, -, -, -⟩ := Ty.open_ hcs'
  obtain ⟨w0, hw0, B0, bA, bB, bC⟩ := blocks3 w 30 30 34 [.int .i64 k, .string n, .slice A l.length c, .slice A2 kids.length c2] [.int .i64 k', .string n', .slice A' l'.length c', .slice A2' kids'.length c2'] [.int .i64 0, .string ⟨#[]⟩]
  clear hcs hcs' h1 h2 h3
  have kA := bA.cell
  have kB := bB.cell
  have j5 := bC.cell
  have l5 := bC.frozen
  change Calls Tryz.prog 35 #[.agg #[.int .i64 k, .string n, .slice A l.length c, .slice A2 kids.length c2], .agg #[.int .i64 k', .string n', .slice A' l'.length c', .slice A2' kids'.length c2'], .string t] w _
  go_enter Tryz.func35, Tryz.ntmps35
  go_upto_region 1 with fail
  rw [← hw0]
  clear hw0
  go_wp2_with (first | (go_at_call 66; (first | (with_reducible refine (HN1.out _).mono ?_) | (with_reducible refine (HN2.out _).mono ?_)); rintro e w9 ⟨rfl, rfl⟩))
  refine (l08No_s 1 _ _).mono ?_
  rintro e w3 ⟨rfl, hb3⟩
  have hb4 := B0.trans (hb3.mono B0.size)
  replace bC := bC.call hb3
  clear j5 l5 kA kB
  have j5 := bC.cell
  have l5 := bC.frozen
  go_wp2
  exact bodyPost_ret (v := .tuple #[.agg #[.int .i64 1, .string t], .bool true]) (by simp [results, Tryz.results35, go_sem, j5]) rfl ⟨by rw [HV.out]; rfl, (hb4.setCell (by simp <;> omega) _).setCell (by simp <;> omega) _⟩
set_option maxHeartbeats 4000000 in
set_option maxRecDepth 20000 in
theorem plain_s (m : Nat) (k k' : Int) (n n' : ByteArray) (l l' : List ByteArray) (kids kids' : List Ty) (t : ByteArray) (cs cs' : List Value) (w : World) (hcs : D.Ats w anyB (Ty.ds (.mk k n l kids)) cs) (hcs' : D.Ats w anyB (Ty.ds (.mk k' n' l' kids')) cs') (e : k' = k) (h1 : numK k = false) (h2 : k < 12 ∨ 23 < k) :
    Calls Tryz.prog 35 #[.agg cs.toArray, .agg cs'.toArray, .string t] w fun e w' => e = .returned (retR (whyN (m + 1) (.mk k n l kids) (.mk k' n' l' kids') t)) ∧ Below w.heap.size w w' := by
  subst e
  have HV := Lib.hid (show whyN (m + 1) (.mk k' n l kids) (.mk k' n' l' kids') t = none by rw [why_kind h1, body0 h2])
  have gd : (k' != k') = false := by simp
  have q12 : (k' == 12) = false := beq_eq_false_iff_ne.2 (by omega)
  have q13 : (k' == 13) = false := beq_eq_false_iff_ne.2 (by omega)
  have q14 : (k' == 14) = false := beq_eq_false_iff_ne.2 (by omega)
  have q15 : (k' == 15) = false := beq_eq_false_iff_ne.2 (by omega)
  have q16 : (k' == 16) = false := beq_eq_false_iff_ne.2 (by omega)
  have q17 : (k' == 17) = false := beq_eq_false_iff_ne.2 (by omega)
  have q18 : (k' == 18) = false := beq_eq_false_iff_ne.2 (by omega)
  have q19 : (k' == 19) = false := beq_eq_false_iff_ne.2 (by omega)
  have q20 : (k' == 20) = false := beq_eq_false_iff_ne.2 (by omega)
  have q21 : (k' == 21) = false := beq_eq_false_iff_ne.2 (by omega)
  have q22 : (k' == 22) = false := beq_eq_false_iff_ne.2 (by omega)
  have q23 : (k' == 23) = false := beq_eq_false_iff_ne.2 (by omega)
  have HN1 := Lib.hid (fun w => l08Number_s k' w)
  rw [h1] at HN1
  have HN2 := HN1
  obtain ⟨A, c, A2, c2, rfl, -, -, -, -⟩ := Ty.open_ hcs
  obtain ⟨A', c', A2', c2', rfl, -, -, -, -⟩ := Ty.open_ hcs'
  obtain ⟨w0, hw0, B0, bA, bB, bC⟩ := blocks3 w 30 30 34 [.int .i64 k', .string n, .slice A l.length c, .slice A2 kids.length c2] [.int .i64 k', .string n', .slice A' l'.length c', .slice A2' kids'.length c2'] [.int .i64 0, .string ⟨#[]⟩]
  clear hcs hcs' h1 h2
  have kA := bA.cell
  have kB := bB.cell
  have j5 := bC.cell
  have l5 := bC.frozen
  change Calls Tryz.prog 35 #[.agg #[.int .i64 k', .string n, .slice A l.length c, .slice A2 kids.length c2], .agg #[.int .i64 k', .string n', .slice A' l'.length c', .slice A2' kids'.length c2'], .string t] w _
  go_enter Tryz.func35, Tryz.ntmps35
  go_upto_region 1 with fail
  rw [← hw0]
  clear hw0
  go_wp2_with (first | (go_at_call 66; (first | (with_reducible refine (HN1.out _).mono ?_) | (with_reducible refine (HN2.out _).mono ?_)); rintro e w9 ⟨rfl, rfl⟩))
  exact bodyPost_ret (v := .tuple #[.agg #[.int .i64 0, .string ⟨#[]⟩], .bool false]) (by simp [results, Tryz.results35, go_sem, j5]) rfl ⟨by rw [HV.out]; rfl, (B0.setCell (by simp <;> omega) _).setCell (by simp <;> omega) _⟩
set_option maxHeartbeats 4000000 in
set_option maxRecDepth 20000 in
theorem name20a_s (m : Nat) (k k' : Int) (n n' : ByteArray) (l l' : List ByteArray) (kids kids' : List Ty) (t : ByteArray) (cs cs' : List Value) (w : World) (hcs : D.Ats w anyB (Ty.ds (.mk k n l kids)) cs) (hcs' : D.Ats w anyB (Ty.ds (.mk k' n' l' kids')) cs') (e : k = 20) (e2 : k' = 20) (h1 : (n.toList == n'.toList) = true) :
    Calls Tryz.prog 35 #[.agg cs.toArray, .agg cs'.toArray, .string t] w fun e w' => e = .returned (retR (whyN (m + 1) (.mk k n l kids) (.mk k' n' l' kids') t)) ∧ Below w.heap.size w w' := by
  subst e e2
  have HV := Lib.hid (show whyN (m + 1) (.mk 20 n l kids) (.mk 20 n' l' kids') t = none by rw [why_kind (by decide), body20 (by omega)]; exact if_pos h1)
  have gn : (n.toList != n'.toList) = false := by simp only [bne]; rw [h1]; rfl
  have HN1 := Lib.hid (fun w => l08Number_s 20 w)
  have HN2 := Lib.hid (fun w => l08Number_s 20 w)
  obtain ⟨A, c, A2, c2, rfl, -, -, -, -⟩ := Ty.open_ hcs
  obtain ⟨A', c', A2', c2', rfl, -, -, -, -⟩ := Ty.open_ hcs'
  obtain ⟨w0, hw0, B0, bA, bB, bC⟩ := blocks3 w 30 30 34 [.int .i64 20, .string n, .slice A l.length c, .slice A2 kids.length c2] [.int .i64 20, .string n', .slice A' l'.length c', .slice A2' kids'.length c2'] [.int .i64 0, .string ⟨#[]⟩]
  clear hcs hcs'
  have kA := bA.cell
  have kB := bB.cell
  have j5 := bC.cell
  have l5 := bC.frozen
  change Calls Tryz.prog 35 #[.agg #[.int .i64 20, .string n, .slice A l.length c, .slice A2 kids.length c2], .agg #[.int .i64 20, .string n', .slice A' l'.length c', .slice A2' kids'.length c2'], .string t] w _
  go_enter Tryz.func35, Tryz.ntmps35
  go_upto_region 1 with fail
  rw [← hw0]
  clear hw0
  go_wp2_with (first | (go_at_call 66; (first | (with_reducible refine (HN1.out _).mono ?_) | (with_reducible refine (HN2.out _).mono ?_)); rintro e w9 ⟨rfl, rfl⟩))
  exact bodyPost_ret (v := .tuple #[.agg #[.int .i64 0, .string ⟨#[]⟩], .bool false]) (by simp [results, Tryz.results35, go_sem, j5]) rfl ⟨by rw [HV.out]; rfl, (B0.setCell (by simp <;> omega) _).setCell (by simp <;> omega) _⟩
set_option maxHeartbeats 4000000 in
set_option maxRecDepth 20000 in
theorem name20b_s (m : Nat) (k k' : Int) (n n' : ByteArray) (l l' : List ByteArray) (kids kids' : List Ty) (t : ByteArray) (cs cs' : List Value) (w : World) (hcs : D.Ats w anyB (Ty.ds (.mk k n l kids)) cs) (hcs' : D.Ats w anyB (Ty.ds (.mk k' n' l' kids')) cs') (e : k = 20) (e2 : k' = 20) (h1 : (n.toList == n'.toList) = false) :
    Calls Tryz.prog 35 #[.agg cs.toArray, .agg cs'.toArray, .string t] w fun e w' => e = .returned (retR (whyN (m + 1) (.mk k n l kids) (.mk k' n' l' kids') t)) ∧ Below w.heap.size w w' := by
  subst e e2
  have HV := Lib.hid (show whyN (m + 1) (.mk 20 n l kids) (.mk 20 n' l' kids') t = some (6, t) by rw [why_kind (by decide), body20 (by omega)]; exact if_neg (by rw [h1]; decide))
  have gn : (n.toList != n'.toList) = true := by simp only [bne]; rw [h1]; rfl
  have HN1 := Lib.hid (fun w => l08Number_s 20 w)
  have HN2 := Lib.hid (fun w => l08Number_s 20 w)
  obtain ⟨A, c, A2, c2, rfl, -, -, -, -⟩ := Ty.open_ hcs
  obtain ⟨A', c', A2', c2', rfl, -, -, -, -⟩ := Ty.open_ hcs'
  obtain ⟨w0, hw0, B0, bA, bB, bC⟩ := blocks3 w 30 30 34 [.int .i64 20, .string n, .slice A l.length c, .slice A2 kids.length c2] [.int .i64 20, .string n', .slice A' l'.length c', .slice A2' kids'.length c2'] [.int .i64 0, .string ⟨#[]⟩]
  clear hcs hcs'
  have kA := bA.cell
  have kB := bB.cell
  have j5 := bC.cell
  have l5 := bC.frozen
  change Calls Tryz.prog 35 #[.agg #[.int .i64 20, .string n, .slice A l.length c, .slice A2 kids.length c2], .agg #[.int .i64 20, .string n', .slice A' l'.length c', .slice A2' kids'.length c2'], .string t] w _
  go_enter Tryz.func35, Tryz.ntmps35
  go_upto_region 1 with fail
  rw [← hw0]
  clear hw0
  go_wp2_with (first | (go_at_call 66; (first | (with_reducible refine (HN1.out _).mono ?_) | (with_reducible refine (HN2.out _).mono ?_)); rintro e w9 ⟨rfl, rfl⟩))
  refine (l08No_s 6 _ _).mono ?_
  rintro e w3 ⟨rfl, hb3⟩
  have hb4 := B0.trans (hb3.mono B0.size)
  replace bC := bC.call hb3
  clear j5 l5 kA kB
  have j5 := bC.cell
  have l5 := bC.frozen
  go_wp2
  exact bodyPost_ret (v := .tuple #[.agg #[.int .i64 6, .string t], .bool true]) (by simp [results, Tryz.results35, go_sem, j5]) rfl ⟨by rw [HV.out]; rfl, (hb4.setCell (by simp <;> omega) _).setCell (by simp <;> omega) _⟩
set_option maxHeartbeats 4000000 in
set_option maxRecDepth 20000 in
theorem name21a_s (m : Nat) (k k' : Int) (n n' : ByteArray) (l l' : List ByteArray) (kids kids' : List Ty) (t : ByteArray) (cs cs' : List Value) (w : World) (hcs : D.Ats w anyB (Ty.ds (.mk k n l kids)) cs) (hcs' : D.Ats w anyB (Ty.ds (.mk k' n' l' kids')) cs') (e : k = 21) (e2 : k' = 21) (h1 : (n.toList == n'.toList) = true) :
    Calls Tryz.prog 35 #[.agg cs.toArray, .agg cs'.toArray, .string t] w fun e w' => e = .returned (retR (whyN (m + 1) (.mk k n l kids) (.mk k' n' l' kids') t)) ∧ Below w.heap.size w w' := by
  subst e e2
  have HV := Lib.hid (show whyN (m + 1) (.mk 21 n l kids) (.mk 21 n' l' kids') t = none by rw [why_kind (by decide), body20 (by omega)]; exact if_pos h1)
  have gn : (n.toList != n'.toList) = false := by simp only [bne]; rw [h1]; rfl
  have HN1 := Lib.hid (fun w => l08Number_s 21 w)
  have HN2 := Lib.hid (fun w => l08Number_s 21 w)
  obtain ⟨A, c, A2, c2, rfl, -, -, -, -⟩ := Ty.open_ hcs
  obtain ⟨A', c', A2', c2', rfl, -, -, -, -⟩ := Ty.open_ hcs'
  obtain ⟨w0, hw0, B0, bA, bB, bC⟩ := blocks3 w 30 30 34 [.int .i64 21, .string n, .slice A l.length c, .slice A2 kids.length c2] [.int .i64 21, .string n', .slice A' l'.length c', .slice A2' kids'.length c2'] [.int .i64 0, .string ⟨#[]⟩]
  clear hcs hcs'
  have kA := bA.cell
  have kB := bB.cell
  have j5 := bC.cell
  have l5 := bC.frozen
  change Calls Tryz.prog 35 #[.agg #[.int .i64 21, .string n, .slice A l.length c, .slice A2 kids.length c2], .agg #[.int .i64 21, .string n', .slice A' l'.length c', .slice A2' kids'.length c2'], .string t] w _
  go_enter Tryz.func35, Tryz.ntmps35
  go_upto_region 1 with fail
  rw [← hw0]
  clear hw0
  go_wp2_with (first | (go_at_call 66; (first | (with_reducible refine (HN1.out _).mono ?_) | (with_reducible refine (HN2.out _).mono ?_)); rintro e w9 ⟨rfl, rfl⟩))
  exact bodyPost_ret (v := .tuple #[.agg #[.int .i64 0, .string ⟨#[]⟩], .bool false]) (by simp [results, Tryz.results35, go_sem, j5]) rfl ⟨by rw [HV.out]; rfl, (B0.setCell (by simp <;> omega) _).setCell (by simp <;> omega) _⟩
set_option maxHeartbeats 4000000 in
set_option maxRecDepth 20000 in
theorem name21b_s (m : Nat) (k k' : Int) (n n' : ByteArray) (l l' : List ByteArray) (kids kids' : List Ty) (t : ByteArray) (cs cs' : List Value) (w : World) (hcs : D.Ats w anyB (Ty.ds (.mk k n l kids)) cs) (hcs' : D.Ats w anyB (Ty.ds (.mk k' n' l' kids')) cs') (e : k = 21) (e2 : k' = 21) (h1 : (n.toList == n'.toList) = false) :
    Calls Tryz.prog 35 #[.agg cs.toArray, .agg cs'.toArray, .string t] w fun e w' => e = .returned (retR (whyN (m + 1) (.mk k n l kids) (.mk k' n' l' kids') t)) ∧ Below w.heap.size w w' := by
  subst e e2
  have HV := Lib.hid (show whyN (m + 1) (.mk 21 n l kids) (.mk 21 n' l' kids') t = some (6, t) by rw [why_kind (by decide), body20 (by omega)]; exact if_neg (by rw [h1]; decide))
  have gn : (n.toList != n'.toList) = true := by simp only [bne]; rw [h1]; rfl
  have HN1 := Lib.hid (fun w => l08Number_s 21 w)
  have HN2 := Lib.hid (fun w => l08Number_s 21 w)
  obtain ⟨A, c, A2, c2, rfl, -, -, -, -⟩ := Ty.open_ hcs
  obtain ⟨A', c', A2', c2', rfl, -, -, -, -⟩ := Ty.open_ hcs'
  obtain ⟨w0, hw0, B0, bA, bB, bC⟩ := blocks3 w 30 30 34 [.int .i64 21, .string n, .slice A l.length c, .slice A2 kids.length c2] [.int .i64 21, .string n', .slice A' l'.length c', .slice A2' kids'.length c2'] [.int .i64 0, .string ⟨#[]⟩]
  clear hcs hcs'
  have kA := bA.cell
  have kB := bB.cell
  have j5 := bC.cell
  have l5 := bC.frozen
  change Calls Tryz.prog 35 #[.agg #[.int .i64 21, .string n, .slice A l.length c, .slice A2 kids.length c2], .agg #[.int .i64 21, .string n', .slice A' l'.length c', .slice A2' kids'.length c2'], .string t] w _
  go_enter Tryz.func35, Tryz.ntmps35
  go_upto_region 1 with fail
  rw [← hw0]
  clear hw0
  go_wp2_with (first | (go_at_call 66; (first | (with_reducible refine (HN1.out _).mono ?_) | (with_reducible refine (HN2.out _).mono ?_)); rintro e w9 ⟨rfl, rfl⟩))
  refine (l08No_s 6 _ _).mono ?_
  rintro e w3 ⟨rfl, hb3⟩
  have hb4 := B0.trans (hb3.mono B0.size)
  replace bC := bC.call hb3
  clear j5 l5 kA kB
  have j5 := bC.cell
  have l5 := bC.frozen
  go_wp2
  exact bodyPost_ret (v := .tuple #[.agg #[.int .i64 6, .string t], .bool true]) (by simp [results, Tryz.results35, go_sem, j5]) rfl ⟨by rw [HV.out]; rfl, (hb4.setCell (by simp <;> omega) _).setCell (by simp <;> omega) _⟩
end Go.Proofs.YtoioljkhinodaaaGreatDoor
namespace Go.Proofs.YtoioljkhinodaaaGreatDoor
open Go.RowKit Go.Shelf

set_option maxHeartbeats 4000000 in
set_option maxRecDepth 20000 in
theorem kid12_s (m : Nat) (C : World → Prop) (hC : ∀ w w', C w → Below w.heap.size w w' → C w') (ih : WhyAt 35 C m) (k : Int) (n n' : ByteArray) (l l' : List ByteArray) (kids kids' : List Ty) (t : ByteArray) (cs cs' : List Value) (w : World) (hcw : C w) (hd : Ty.deep (.mk k n l kids) ≤ m + 1) (hx : Ty.all shape (.mk k n l kids) = true) (hy : Ty.all shape (.mk k n' l' kids') = true) (ht : t.size + 20 * (m + 1) ≤ 1000000) (hcs : D.Ats w anyB (Ty.ds (.mk k n l kids)) cs) (hcs' : D.Ats w anyB (Ty.ds (.mk k n' l' kids')) cs') (hk : k = 12) :
    Calls Tryz.prog 35 #[.agg cs.toArray, .agg cs'.toArray, .string t] w fun e w' => e = .returned (retR (whyN (m + 1) (.mk k n l kids) (.mk k n' l' kids') t)) ∧ Below w.heap.size w w' := by
  subst hk
  obtain ⟨fx, kx⟩ := Fit.of hx
  obtain ⟨fy, ky⟩ := Fit.of hy
  obtain ⟨x, rfl⟩ := List.length_eq_one_iff.1 (fx.one (by omega))
  obtain ⟨y, rfl⟩ := List.length_eq_one_iff.1 (fy.one (by omega))
  obtain ⟨A, c, A2, c2, rfl, -, -, -, hk⟩ := Ty.open_ hcs
  obtain ⟨A', c', A2', c2', rfl, -, -, -, hk'⟩ := Ty.open_ hcs'
  obtain ⟨b, off, u0, u1, u2, u3, rfl, -, hbl, hat, e0, e1, e2, e3⟩ := rows_at4 Ty.len hk (show [x][0]? = some x from rfl)
  obtain ⟨b', off', v0, v1, v2, v3, rfl, -, hbl', hat', d0, d1, d2, d3⟩ := rows_at4 Ty.len hk' (show [y][0]? = some y from rfl)
  have HV := Lib.hid (show whyN (m + 1) (.mk 12 n l [x]) (.mk 12 n' l' [y]) t = whyN m x y (t ++ ⟨#[91, 93]⟩) by rw [why_kind (by decide), body12]; rfl)
  have HX := Lib.hid (fun w' hc h h' => ih x y (t ++ ⟨#[91, 93]⟩) [u0, u1, u2, u3] [v0, v1, v2, v3] w' (deep_kid hd (.head _)) (kx x (.head _)) (ky y (.head _)) (by rw [ByteArray.size_append]; show t.size + 2 + 20 * m ≤ 1000000; omega) hc h h')
  simp only [retR_eq] at HX
  generalize hR : whyN m x y (t ++ ⟨#[91, 93]⟩) = R at HX HV
  clear hR
  obtain ⟨w0, hw0, B0, bA, bB, bC⟩ := blocks3 w 30 30 34 [.int .i64 12, .string n, .slice A l.length c, .slice (some ⟨b, off, none⟩) 1 c2] [.int .i64 12, .string n', .slice A' l'.length c', .slice (some ⟨b', off', none⟩) 1 c2'] [.int .i64 0, .string ⟨#[]⟩]
  have H0 := Lib.hid (And.intro (hat.below B0) (And.intro (hat'.below B0) (And.intro hC (hC _ _ hcw B0))))
  replace e0 := (B0.cell (p := ⟨b, off + 0 * 4, none⟩) hbl).trans e0
  replace e1 := (B0.cell (p := ⟨b, off + 0 * 4 + 1, none⟩) hbl).trans e1
  replace e2 := (B0.cell (p := ⟨b, off + 0 * 4 + 2, none⟩) hbl).trans e2
  replace e3 := (B0.cell (p := ⟨b, off + 0 * 4 + 3, none⟩) hbl).trans e3
  replace d0 := (B0.cell (p := ⟨b', off' + 0 * 4, none⟩) hbl').trans d0
  replace d1 := (B0.cell (p := ⟨b', off' + 0 * 4 + 1, none⟩) hbl').trans d1
  replace d2 := (B0.cell (p := ⟨b', off' + 0 * 4 + 2, none⟩) hbl').trans d2
  replace d3 := (B0.cell (p := ⟨b', off' + 0 * 4 + 3, none⟩) hbl').trans d3
  simp only [Nat.zero_mul, Nat.add_zero] at e0 e1 e2 e3 d0 d1 d2 d3
  replace hbl : b < w.heap.size + 2 := by omega
  replace hbl' : b' < w.heap.size + 2 := by omega
  have zA : w.heap.size < w.heap.size + 2 := by omega
  have zB : w.heap.size + 1 < w.heap.size + 2 := by omega
  have szw : w.heap.size + 2 ≤ w0.heap.size := by have := bC.lt; omega
  have k1 := bA.cell
  have k2 := bB.cell
  have hadd : ¬ 9223372036854775807 < t.size + 2 := by omega
  clear hcs hcs' hk hk' hx hy fx kx fy ky hat hat' ih hd ht hC hcw
  change Calls Tryz.prog 35 #[.agg #[.int .i64 12, .string n, .slice A l.length c, .slice (some ⟨b, off, none⟩) 1 c2], .agg #[.int .i64 12, .string n', .slice A' l'.length c', .slice (some ⟨b', off', none⟩) 1 c2'], .string t] w _
  go_enter Tryz.func35, Tryz.ntmps35
  go_upto_region 1 with fail
  rw [← hw0]
  clear hw0
  go_upto_region 9 with (go_at_call 66; refine (l08Number_s _ _).mono ?_; rintro e w9 ⟨rfl, rfl⟩)
  have f1 : w0.cell? ⟨w.heap.size, 3, none⟩ = some (.slice (some ⟨b, off, none⟩) 1 c2) := k1 3
  have f2 : w0.cell? ⟨w.heap.size + 1, 3, none⟩ = some (.slice (some ⟨b', off', none⟩) 1 c2') := k2 3
  have K0 : Below (w.heap.size + 2) w0 w0.drew := (Below.refl _ w0).drew
  have KEEP : ∀ W, Below (w.heap.size + 2) w0 W → W.cell? ⟨w.heap.size, 3, none⟩ = some (.slice (some ⟨b, off, none⟩) 1 c2) ∧ W.cell? ⟨w.heap.size + 1, 3, none⟩ = some (.slice (some ⟨b', off', none⟩) 1 c2') ∧ W.cell? ⟨b, off, none⟩ = some (u0) ∧ W.cell? ⟨b, off + 1, none⟩ = some (u1) ∧ W.cell? ⟨b, off + 2, none⟩ = some (u2) ∧ W.cell? ⟨b, off + 3, none⟩ = some (u3) ∧ W.cell? ⟨b', off', none⟩ = some (v0) ∧ W.cell? ⟨b', off' + 1, none⟩ = some (v1) ∧ W.cell? ⟨b', off' + 2, none⟩ = some (v2) ∧ W.cell? ⟨b', off' + 3, none⟩ = some (v3) := fun W G => ⟨(G.cell (p := ⟨w.heap.size, 3, none⟩) zA).trans f1, (G.cell (p := ⟨w.heap.size + 1, 3, none⟩) zB).trans f2, (G.cell (p := ⟨b, off, none⟩) hbl).trans e0, (G.cell (p := ⟨b, off + 1, none⟩) hbl).trans e1, (G.cell (p := ⟨b, off + 2, none⟩) hbl).trans e2, (G.cell (p := ⟨b, off + 3, none⟩) hbl).trans e3, (G.cell (p := ⟨b', off', none⟩) hbl').trans d0, (G.cell (p := ⟨b', off' + 1, none⟩) hbl').trans d1, (G.cell (p := ⟨b', off' + 2, none⟩) hbl').trans d2, (G.cell (p := ⟨b', off' + 3, none⟩) hbl').trans d3⟩
  have HCD := H0.out.2.2.1 _ _ H0.out.2.2.2 ((Below.refl _ w0).drew)
  go_region_held3 (fun w' => w'.cell? ⟨w.heap.size, 3, none⟩ = some (.slice (some ⟨b, off, none⟩) 1 c2) ∧ w'.cell? ⟨w.heap.size + 1, 3, none⟩ = some (.slice (some ⟨b', off', none⟩) 1 c2') ∧ w'.cell? ⟨b, off, none⟩ = some (u0) ∧ w'.cell? ⟨b, off + 1, none⟩ = some (u1) ∧ w'.cell? ⟨b, off + 2, none⟩ = some (u2) ∧ w'.cell? ⟨b, off + 3, none⟩ = some (u3) ∧ w'.cell? ⟨b', off', none⟩ = some (v0) ∧ w'.cell? ⟨b', off' + 1, none⟩ = some (v1) ∧ w'.cell? ⟨b', off' + 2, none⟩ = some (v2) ∧ w'.cell? ⟨b', off' + 3, none⟩ = some (v3))
    (first | exact KEEP _ K0 | exact KEEP _ B5 | exact KEEP _ ((B5.setCell (by simp) _).setCell (by simp) _) | (trace_state; fail))
    (first | (go_at_call 35; ((with_reducible refine (HX.out _ HCD H0.out.1.drew H0.out.2.1.drew).mono ?_); rintro e w5 ⟨rfl, hb5⟩; have bC5 := Box.call (w := w0.drew) bC hb5; have j5 := bC5.cell; have l5 := bC5.frozen; have B5 := K0.trans (hb5.mono szw))))
  all_goals
    have fin := Lib.hid (show Below w.heap.size w w5 from B0.trans (B5.mono (Nat.le_add_right _ _)))
    go_wp2_with fail
    exact bodyPost_ret (v := .tuple #[.agg #[.int .i64 (rsK R), .string (rsT R)], .bool (rsO R)]) (by simp [results, Tryz.results35, go_sem, j5]) rfl ⟨by rw [HV.out, retR_eq], (fin.out.setCell (by simp <;> omega) _).setCell (by simp <;> omega) _⟩
set_option maxHeartbeats 4000000 in
set_option maxRecDepth 20000 in
theorem kid13_s (m : Nat) (C : World → Prop) (hC : ∀ w w', C w → Below w.heap.size w w' → C w') (ih : WhyAt 35 C m) (k : Int) (n n' : ByteArray) (l l' : List ByteArray) (kids kids' : List Ty) (t : ByteArray) (cs cs' : List Value) (w : World) (hcw : C w) (hd : Ty.deep (.mk k n l kids) ≤ m + 1) (hx : Ty.all shape (.mk k n l kids) = true) (hy : Ty.all shape (.mk k n' l' kids') = true) (ht : t.size + 20 * (m + 1) ≤ 1000000) (hcs : D.Ats w anyB (Ty.ds (.mk k n l kids)) cs) (hcs' : D.Ats w anyB (Ty.ds (.mk k n' l' kids')) cs') (hk : k = 13) :
    Calls Tryz.prog 35 #[.agg cs.toArray, .agg cs'.toArray, .string t] w fun e w' => e = .returned (retR (whyN (m + 1) (.mk k n l kids) (.mk k n' l' kids') t)) ∧ Below w.heap.size w w' := by
  subst hk
  obtain ⟨fx, kx⟩ := Fit.of hx
  obtain ⟨fy, ky⟩ := Fit.of hy
  obtain ⟨x, rfl⟩ := List.length_eq_one_iff.1 (fx.one (by omega))
  obtain ⟨y, rfl⟩ := List.length_eq_one_iff.1 (fy.one (by omega))
  obtain ⟨A, c, A2, c2, rfl, -, -, -, hk⟩ := Ty.open_ hcs
  obtain ⟨A', c', A2', c2', rfl, -, -, -, hk'⟩ := Ty.open_ hcs'
  obtain ⟨b, off, u0, u1, u2, u3, rfl, -, hbl, hat, e0, e1, e2, e3⟩ := rows_at4 Ty.len hk (show [x][0]? = some x from rfl)
  obtain ⟨b', off', v0, v1, v2, v3, rfl, -, hbl', hat', d0, d1, d2, d3⟩ := rows_at4 Ty.len hk' (show [y][0]? = some y from rfl)
  have HV := Lib.hid (show whyN (m + 1) (.mk 13 n l [x]) (.mk 13 n' l' [y]) t = whyN m x y (t ++ ⟨#[63]⟩) by rw [why_kind (by decide), body13]; rfl)
  have HX := Lib.hid (fun w' hc h h' => ih x y (t ++ ⟨#[63]⟩) [u0, u1, u2, u3] [v0, v1, v2, v3] w' (deep_kid hd (.head _)) (kx x (.head _)) (ky y (.head _)) (by rw [ByteArray.size_append]; show t.size + 1 + 20 * m ≤ 1000000; omega) hc h h')
  simp only [retR_eq] at HX
  generalize hR : whyN m x y (t ++ ⟨#[63]⟩) = R at HX HV
  clear hR
  obtain ⟨w0, hw0, B0, bA, bB, bC⟩ := blocks3 w 30 30 34 [.int .i64 13, .string n, .slice A l.length c, .slice (some ⟨b, off, none⟩) 1 c2] [.int .i64 13, .string n', .slice A' l'.length c', .slice (some ⟨b', off', none⟩) 1 c2'] [.int .i64 0, .string ⟨#[]⟩]
  have H0 := Lib.hid (And.intro (hat.below B0) (And.intro (hat'.below B0) (And.intro hC (hC _ _ hcw B0))))
  replace e0 := (B0.cell (p := ⟨b, off + 0 * 4, none⟩) hbl).trans e0
  replace e1 := (B0.cell (p := ⟨b, off + 0 * 4 + 1, none⟩) hbl).trans e1
  replace e2 := (B0.cell (p := ⟨b, off + 0 * 4 + 2, none⟩) hbl).trans e2
  replace e3 := (B0.cell (p := ⟨b, off + 0 * 4 + 3, none⟩) hbl).trans e3
  replace d0 := (B0.cell (p := ⟨b', off' + 0 * 4, none⟩) hbl').trans d0
  replace d1 := (B0.cell (p := ⟨b', off' + 0 * 4 + 1, none⟩) hbl').trans d1
  replace d2 := (B0.cell (p := ⟨b', off' + 0 * 4 + 2, none⟩) hbl').trans d2
  replace d3 := (B0.cell (p := ⟨b', off' + 0 * 4 + 3, none⟩) hbl').trans d3
  simp only [Nat.zero_mul, Nat.add_zero] at e0 e1 e2 e3 d0 d1 d2 d3
  replace hbl : b < w.heap.size + 2 := by omega
  replace hbl' : b' < w.heap.size + 2 := by omega
  have zA : w.heap.size < w.heap.size + 2 := by omega
  have zB : w.heap.size + 1 < w.heap.size + 2 := by omega
  have szw : w.heap.size + 2 ≤ w0.heap.size := by have := bC.lt; omega
  have k1 := bA.cell
  have k2 := bB.cell
  have hadd : ¬ 9223372036854775807 < t.size + 1 := by omega
  clear hcs hcs' hk hk' hx hy fx kx fy ky hat hat' ih hd ht hC hcw
  change Calls Tryz.prog 35 #[.agg #[.int .i64 13, .string n, .slice A l.length c, .slice (some ⟨b, off, none⟩) 1 c2], .agg #[.int .i64 13, .string n', .slice A' l'.length c', .slice (some ⟨b', off', none⟩) 1 c2'], .string t] w _
  go_enter Tryz.func35, Tryz.ntmps35
  go_upto_region 1 with fail
  rw [← hw0]
  clear hw0
  go_upto_region 11 with (go_at_call 66; refine (l08Number_s _ _).mono ?_; rintro e w9 ⟨rfl, rfl⟩)
  have f1 : w0.cell? ⟨w.heap.size, 3, none⟩ = some (.slice (some ⟨b, off, none⟩) 1 c2) := k1 3
  have f2 : w0.cell? ⟨w.heap.size + 1, 3, none⟩ = some (.slice (some ⟨b', off', none⟩) 1 c2') := k2 3
  have K0 : Below (w.heap.size + 2) w0 w0.drew := (Below.refl _ w0).drew
  have KEEP : ∀ W, Below (w.heap.size + 2) w0 W → W.cell? ⟨w.heap.size, 3, none⟩ = some (.slice (some ⟨b, off, none⟩) 1 c2) ∧ W.cell? ⟨w.heap.size + 1, 3, none⟩ = some (.slice (some ⟨b', off', none⟩) 1 c2') ∧ W.cell? ⟨b, off, none⟩ = some (u0) ∧ W.cell? ⟨b, off + 1, none⟩ = some (u1) ∧ W.cell? ⟨b, off + 2, none⟩ = some (u2) ∧ W.cell? ⟨b, off + 3, none⟩ = some (u3) ∧ W.cell? ⟨b', off', none⟩ = some (v0) ∧ W.cell? ⟨b', off' + 1, none⟩ = some (v1) ∧ W.cell? ⟨b', off' + 2, none⟩ = some (v2) ∧ W.cell? ⟨b', off' + 3, none⟩ = some (v3) := fun W G => ⟨(G.cell (p := ⟨w.heap.size, 3, none⟩) zA).trans f1, (G.cell (p := ⟨w.heap.size + 1, 3, none⟩) zB).trans f2, (G.cell (p := ⟨b, off, none⟩) hbl).trans e0, (G.cell (p := ⟨b, off + 1, none⟩) hbl).trans e1, (G.cell (p := ⟨b, off + 2, none⟩) hbl).trans e2, (G.cell (p := ⟨b, off + 3, none⟩) hbl).trans e3, (G.cell (p := ⟨b', off', none⟩) hbl').trans d0, (G.cell (p := ⟨b', off' + 1, none⟩) hbl').trans d1, (G.cell (p := ⟨b', off' + 2, none⟩) hbl').trans d2, (G.cell (p := ⟨b', off' + 3, none⟩) hbl').trans d3⟩
  have HCD := H0.out.2.2.1 _ _ H0.out.2.2.2 ((Below.refl _ w0).drew)
  go_region_held3 (fun w' => w'.cell? ⟨w.heap.size, 3, none⟩ = some (.slice (some ⟨b, off, none⟩) 1 c2) ∧ w'.cell? ⟨w.heap.size + 1, 3, none⟩ = some (.slice (some ⟨b', off', none⟩) 1 c2') ∧ w'.cell? ⟨b, off, none⟩ = some (u0) ∧ w'.cell? ⟨b, off + 1, none⟩ = some (u1) ∧ w'.cell? ⟨b, off + 2, none⟩ = some (u2) ∧ w'.cell? ⟨b, off + 3, none⟩ = some (u3) ∧ w'.cell? ⟨b', off', none⟩ = some (v0) ∧ w'.cell? ⟨b', off' + 1, none⟩ = some (v1) ∧ w'.cell? ⟨b', off' + 2, none⟩ = some (v2) ∧ w'.cell? ⟨b', off' + 3, none⟩ = some (v3))
    (first | exact KEEP _ K0 | exact KEEP _ B5 | exact KEEP _ ((B5.setCell (by simp) _).setCell (by simp) _) | (trace_state; fail))
    (first | (go_at_call 35; ((with_reducible refine (HX.out _ HCD H0.out.1.drew H0.out.2.1.drew).mono ?_); rintro e w5 ⟨rfl, hb5⟩; have bC5 := Box.call (w := w0.drew) bC hb5; have j5 := bC5.cell; have l5 := bC5.frozen; have B5 := K0.trans (hb5.mono szw))))
  all_goals
    have fin := Lib.hid (show Below w.heap.size w w5 from B0.trans (B5.mono (Nat.le_add_right _ _)))
    go_wp2_with fail
    exact bodyPost_ret (v := .tuple #[.agg #[.int .i64 (rsK R), .string (rsT R)], .bool (rsO R)]) (by simp [results, Tryz.results35, go_sem, j5]) rfl ⟨by rw [HV.out, retR_eq], (fin.out.setCell (by simp <;> omega) _).setCell (by simp <;> omega) _⟩
end Go.Proofs.YtoioljkhinodaaaGreatDoor
namespace Go.Proofs.YtoioljkhinodaaaGreatDoor
open Go.RowKit Go.Shelf

set_option maxHeartbeats 4000000 in
set_option maxRecDepth 20000 in
theorem str22_s (m : Nat) (C : World → Prop) (_hC : ∀ w w', C w → Below w.heap.size w w' → C w') (_ih : WhyAt 35 C m) (k : Int) (n n' : ByteArray) (l l' : List ByteArray) (kids kids' : List Ty) (t : ByteArray) (cs cs' : List Value) (w : World) (_hcw : C w) (hd : Ty.deep (.mk k n l kids) ≤ m + 1) (hx : Ty.all shape (.mk k n l kids) = true) (hy : Ty.all shape (.mk k n' l' kids') = true) (_ht : t.size + 20 * (m + 1) ≤ 1000000) (hcs : D.Ats w anyB (Ty.ds (.mk k n l kids)) cs) (hcs' : D.Ats w anyB (Ty.ds (.mk k n' l' kids')) cs') (hk : k = 22) :
    Calls Tryz.prog 35 #[.agg cs.toArray, .agg cs'.toArray, .string t] w fun e w' => e = .returned (retR (whyN (m + 1) (.mk k n l kids) (.mk k n' l' kids') t)) ∧ Below w.heap.size w w' := by
  subst hk
  obtain ⟨fx, kx⟩ := Fit.of hx
  obtain ⟨fy, ky⟩ := Fit.of hy
  obtain ⟨x, rfl⟩ := List.length_eq_one_iff.1 (fx.one (by omega))
  obtain ⟨y, rfl⟩ := List.length_eq_one_iff.1 (fy.one (by omega))
  obtain ⟨A, c, A2, c2, rfl, -, -, -, hk⟩ := Ty.open_ hcs
  obtain ⟨A', c', A2', c2', rfl, -, -, -, hk'⟩ := Ty.open_ hcs'
  obtain ⟨b, off, u0, u1, u2, u3, rfl, -, hbl, hat, e0, e1, e2, e3⟩ := rows_at4 Ty.len hk (show [x][0]? = some x from rfl)
  obtain ⟨b', off', v0, v1, v2, v3, rfl, -, hbl', hat', d0, d1, d2, d3⟩ := rows_at4 Ty.len hk' (show [y][0]? = some y from rfl)
  have HV := Lib.hid (show whyN (m + 1) (.mk 22 n l [x]) (.mk 22 n' l' [y]) t = sameR x y t by rw [why_kind (by decide), body22 (by omega)]; rfl)
  have HX := Lib.hid (fun w' h h' => sameType_s x y [u0, u1, u2, u3] [v0, v1, v2, v3] w' h h')
  unfold sameR at HV
  obtain ⟨w0, hw0, B0, bA, bB, bC⟩ := blocks3 w 30 30 34 [.int .i64 22, .string n, .slice A l.length c, .slice (some ⟨b, off, none⟩) 1 c2] [.int .i64 22, .string n', .slice A' l'.length c', .slice (some ⟨b', off', none⟩) 1 c2'] [.int .i64 0, .string ⟨#[]⟩]
  have H0 := Lib.hid (And.intro (hat.below B0) (hat'.below B0))
  replace e0 := (B0.cell (p := ⟨b, off + 0 * 4, none⟩) hbl).trans e0
  replace e1 := (B0.cell (p := ⟨b, off + 0 * 4 + 1, none⟩) hbl).trans e1
  replace e2 := (B0.cell (p := ⟨b, off + 0 * 4 + 2, none⟩) hbl).trans e2
  replace e3 := (B0.cell (p := ⟨b, off + 0 * 4 + 3, none⟩) hbl).trans e3
  replace d0 := (B0.cell (p := ⟨b', off' + 0 * 4, none⟩) hbl').trans d0
  replace d1 := (B0.cell (p := ⟨b', off' + 0 * 4 + 1, none⟩) hbl').trans d1
  replace d2 := (B0.cell (p := ⟨b', off' + 0 * 4 + 2, none⟩) hbl').trans d2
  replace d3 := (B0.cell (p := ⟨b', off' + 0 * 4 + 3, none⟩) hbl').trans d3
  simp only [Nat.zero_mul, Nat.add_zero] at e0 e1 e2 e3 d0 d1 d2 d3
  replace hbl : b < w0.heap.size := Nat.lt_of_lt_of_le hbl B0.size
  replace hbl' : b' < w0.heap.size := Nat.lt_of_lt_of_le hbl' B0.size
  have zA := bA.lt
  have zB := bB.lt
  have k1 := bA.cell
  have k2 := bB.cell
  clear hcs hcs' hk hk' hx hy fx kx fy ky hat hat' hd
  have f1 : w0.cell? ⟨w.heap.size, 3, none⟩ = some (.slice (some ⟨b, off, none⟩) 1 c2) := k1 3
  have f2 : w0.cell? ⟨w.heap.size + 1, 3, none⟩ = some (.slice (some ⟨b', off', none⟩) 1 c2') := k2 3
  have K0 : Below w0.heap.size w0 w0.drew := (Below.refl _ w0).drew
  have KEEP : ∀ W, Below w0.heap.size w0 W → W.cell? ⟨w.heap.size, 3, none⟩ = some (.slice (some ⟨b, off, none⟩) 1 c2) ∧ W.cell? ⟨w.heap.size + 1, 3, none⟩ = some (.slice (some ⟨b', off', none⟩) 1 c2') ∧ W.cell? ⟨b, off, none⟩ = some (u0) ∧ W.cell? ⟨b, off + 1, none⟩ = some (u1) ∧ W.cell? ⟨b, off + 2, none⟩ = some (u2) ∧ W.cell? ⟨b, off + 3, none⟩ = some (u3) ∧ W.cell? ⟨b', off', none⟩ = some (v0) ∧ W.cell? ⟨b', off' + 1, none⟩ = some (v1) ∧ W.cell? ⟨b', off' + 2, none⟩ = some (v2) ∧ W.cell? ⟨b', off' + 3, none⟩ = some (v3) := fun W G => ⟨(G.cell (p := ⟨w.heap.size, 3, none⟩) zA).trans f1, (G.cell (p := ⟨w.heap.size + 1, 3, none⟩) zB).trans f2, (G.cell (p := ⟨b, off, none⟩) hbl).trans e0, (G.cell (p := ⟨b, off + 1, none⟩) hbl).trans e1, (G.cell (p := ⟨b, off + 2, none⟩) hbl).trans e2, (G.cell (p := ⟨b, off + 3, none⟩) hbl).trans e3, (G.cell (p := ⟨b', off', none⟩) hbl').trans d0, (G.cell (p := ⟨b', off' + 1, none⟩) hbl').trans d1, (G.cell (p := ⟨b', off' + 2, none⟩) hbl').trans d2, (G.cell (p := ⟨b', off' + 3, none⟩) hbl').trans d3⟩
  change Calls Tryz.prog 35 #[.agg #[.int .i64 22, .string n, .slice A l.length c, .slice (some ⟨b, off, none⟩) 1 c2], .agg #[.int .i64 22, .string n', .slice A' l'.length c', .slice (some ⟨b', off', none⟩) 1 c2'], .string t] w _
  cases hz : tyEq 100 x y
  · rw [hz] at HX
    rw [if_neg (by rw [hz]; decide)] at HV
    clear hz
    go_enter Tryz.func35, Tryz.ntmps35
    go_upto_region 1 with fail
    rw [← hw0]
    clear hw0
    go_upto_region 36 with (go_at_call 66; refine (l08Number_s _ _).mono ?_; rintro e w9 ⟨rfl, rfl⟩)
    clear k1 k2
    go_region_held3 (fun w' => w'.cell? ⟨w.heap.size, 3, none⟩ = some (.slice (some ⟨b, off, none⟩) 1 c2) ∧ w'.cell? ⟨w.heap.size + 1, 3, none⟩ = some (.slice (some ⟨b', off', none⟩) 1 c2') ∧ w'.cell? ⟨b, off, none⟩ = some (u0) ∧ w'.cell? ⟨b, off + 1, none⟩ = some (u1) ∧ w'.cell? ⟨b, off + 2, none⟩ = some (u2) ∧ w'.cell? ⟨b, off + 3, none⟩ = some (u3) ∧ w'.cell? ⟨b', off', none⟩ = some (v0) ∧ w'.cell? ⟨b', off' + 1, none⟩ = some (v1) ∧ w'.cell? ⟨b', off' + 2, none⟩ = some (v2) ∧ w'.cell? ⟨b', off' + 3, none⟩ = some (v3))
      (first | exact KEEP _ K0 | exact KEEP _ B5 | (trace_state; fail))
      (first | (go_at_call 73; ((with_reducible refine (HX.out _ H0.out.1.drew H0.out.2.drew).mono ?_); rintro e w5 ⟨rfl, hb5⟩; have bC5 := Box.call (w := w0.drew) bC hb5; have j5 := bC5.cell; have l5 := bC5.frozen; have B5 := K0.trans (hb5.mono K0.size))))
    all_goals
      have fin := Lib.hid (show Below w.heap.size w w5 from B0.trans (B5.mono B0.size))
      clear j5 l5
      go_wp2_with fail
      refine (l08No_s 3 _ _).mono ?_
      rintro e w7 ⟨rfl, hb7⟩
      have fin7 := fin.out.trans (hb7.mono (fin.out.size))
      have bC7 := bC5.call hb7
      have j5 := bC7.cell
      have l5 := bC7.frozen
      go_wp2
      exact bodyPost_ret (v := .tuple #[.agg #[.int .i64 3, .string t], .bool true]) (by simp [results, Tryz.results35, go_sem, j5]) rfl ⟨by rw [HV.out]; rfl, (fin7.setCell (by simp <;> omega) _).setCell (by simp <;> omega) _⟩
  · rw [hz] at HX
    rw [if_pos hz] at HV
    clear hz
    go_enter Tryz.func35, Tryz.ntmps35
    go_upto_region 1 with fail
    rw [← hw0]
    clear hw0
    go_upto_region 36 with (go_at_call 66; refine (l08Number_s _ _).mono ?_; rintro e w9 ⟨rfl, rfl⟩)
    clear k1 k2
    go_region_held3 (fun w' => w'.cell? ⟨w.heap.size, 3, none⟩ = some (.slice (some ⟨b, off, none⟩) 1 c2) ∧ w'.cell? ⟨w.heap.size + 1, 3, none⟩ = some (.slice (some ⟨b', off', none⟩) 1 c2') ∧ w'.cell? ⟨b, off, none⟩ = some (u0) ∧ w'.cell? ⟨b, off + 1, none⟩ = some (u1) ∧ w'.cell? ⟨b, off + 2, none⟩ = some (u2) ∧ w'.cell? ⟨b, off + 3, none⟩ = some (u3) ∧ w'.cell? ⟨b', off', none⟩ = some (v0) ∧ w'.cell? ⟨b', off' + 1, none⟩ = some (v1) ∧ w'.cell? ⟨b', off' + 2, none⟩ = some (v2) ∧ w'.cell? ⟨b', off' + 3, none⟩ = some (v3))
      (first | exact KEEP _ K0 | exact KEEP _ B5 | (trace_state; fail))
      (first | (go_at_call 73; ((with_reducible refine (HX.out _ H0.out.1.drew H0.out.2.drew).mono ?_); rintro e w5 ⟨rfl, hb5⟩; have bC5 := Box.call (w := w0.drew) bC hb5; have j5 := bC5.cell; have l5 := bC5.frozen; have B5 := K0.trans (hb5.mono K0.size))))
    all_goals
      have fin := Lib.hid (show Below w.heap.size w w5 from B0.trans (B5.mono B0.size))
      go_wp2_with fail
      exact bodyPost_ret (v := .tuple #[.agg #[.int .i64 0, .string ⟨#[]⟩], .bool false]) (by simp [results, Tryz.results35, go_sem, j5]) rfl ⟨by rw [HV.out]; rfl, (fin.out.setCell (by simp <;> omega) _).setCell (by simp <;> omega) _⟩
set_option maxHeartbeats 4000000 in
set_option maxRecDepth 20000 in
theorem str23_s (m : Nat) (C : World → Prop) (_hC : ∀ w w', C w → Below w.heap.size w w' → C w') (_ih : WhyAt 35 C m) (k : Int) (n n' : ByteArray) (l l' : List ByteArray) (kids kids' : List Ty) (t : ByteArray) (cs cs' : List Value) (w : World) (_hcw : C w) (hd : Ty.deep (.mk k n l kids) ≤ m + 1) (hx : Ty.all shape (.mk k n l kids) = true) (hy : Ty.all shape (.mk k n' l' kids') = true) (_ht : t.size + 20 * (m + 1) ≤ 1000000) (hcs : D.Ats w anyB (Ty.ds (.mk k n l kids)) cs) (hcs' : D.Ats w anyB (Ty.ds (.mk k n' l' kids')) cs') (hk : k = 23) :
    Calls Tryz.prog 35 #[.agg cs.toArray, .agg cs'.toArray, .string t] w fun e w' => e = .returned (retR (whyN (m + 1) (.mk k n l kids) (.mk k n' l' kids') t)) ∧ Below w.heap.size w w' := by
  subst hk
  obtain ⟨fx, kx⟩ := Fit.of hx
  obtain ⟨fy, ky⟩ := Fit.of hy
  obtain ⟨x, rfl⟩ := List.length_eq_one_iff.1 (fx.one (by omega))
  obtain ⟨y, rfl⟩ := List.length_eq_one_iff.1 (fy.one (by omega))
  obtain ⟨A, c, A2, c2, rfl, -, -, -, hk⟩ := Ty.open_ hcs
  obtain ⟨A', c', A2', c2', rfl, -, -, -, hk'⟩ := Ty.open_ hcs'
  obtain ⟨b, off, u0, u1, u2, u3, rfl, -, hbl, hat, e0, e1, e2, e3⟩ := rows_at4 Ty.len hk (show [x][0]? = some x from rfl)
  obtain ⟨b', off', v0, v1, v2, v3, rfl, -, hbl', hat', d0, d1, d2, d3⟩ := rows_at4 Ty.len hk' (show [y][0]? = some y from rfl)
  have HV := Lib.hid (show whyN (m + 1) (.mk 23 n l [x]) (.mk 23 n' l' [y]) t = sameR x y t by rw [why_kind (by decide), body22 (by omega)]; rfl)
  have HX := Lib.hid (fun w' h h' => sameType_s x y [u0, u1, u2, u3] [v0, v1, v2, v3] w' h h')
  unfold sameR at HV
  obtain ⟨w0, hw0, B0, bA, bB, bC⟩ := blocks3 w 30 30 34 [.int .i64 23, .string n, .slice A l.length c, .slice (some ⟨b, off, none⟩) 1 c2] [.int .i64 23, .string n', .slice A' l'.length c', .slice (some ⟨b', off', none⟩) 1 c2'] [.int .i64 0, .string ⟨#[]⟩]
  have H0 := Lib.hid (And.intro (hat.below B0) (hat'.below B0))
  replace e0 := (B0.cell (p := ⟨b, off + 0 * 4, none⟩) hbl).trans e0
  replace e1 := (B0.cell (p := ⟨b, off + 0 * 4 + 1, none⟩) hbl).trans e1
  replace e2 := (B0.cell (p := ⟨b, off + 0 * 4 + 2, none⟩) hbl).trans e2
  replace e3 := (B0.cell (p := ⟨b, off + 0 * 4 + 3, none⟩) hbl).trans e3
  replace d0 := (B0.cell (p := ⟨b', off' + 0 * 4, none⟩) hbl').trans d0
  replace d1 := (B0.cell (p := ⟨b', off' + 0 * 4 + 1, none⟩) hbl').trans d1
  replace d2 := (B0.cell (p := ⟨b', off' + 0 * 4 + 2, none⟩) hbl').trans d2
  replace d3 := (B0.cell (p := ⟨b', off' + 0 * 4 + 3, none⟩) hbl').trans d3
  simp only [Nat.zero_mul, Nat.add_zero] at e0 e1 e2 e3 d0 d1 d2 d3
  replace hbl : b < w0.heap.size := Nat.lt_of_lt_of_le hbl B0.size
  replace hbl' : b' < w0.heap.size := Nat.lt_of_lt_of_le hbl' B0.size
  have zA := bA.lt
  have zB := bB.lt
  have k1 := bA.cell
  have k2 := bB.cell
  clear hcs hcs' hk hk' hx hy fx kx fy ky hat hat' hd
  have f1 : w0.cell? ⟨w.heap.size, 3, none⟩ = some (.slice (some ⟨b, off, none⟩) 1 c2) := k1 3
  have f2 : w0.cell? ⟨w.heap.size + 1, 3, none⟩ = some (.slice (some ⟨b', off', none⟩) 1 c2') := k2 3
  have K0 : Below w0.heap.size w0 w0.drew := (Below.refl _ w0).drew
  have KEEP : ∀ W, Below w0.heap.size w0 W → W.cell? ⟨w.heap.size, 3, none⟩ = some (.slice (some ⟨b, off, none⟩) 1 c2) ∧ W.cell? ⟨w.heap.size + 1, 3, none⟩ = some (.slice (some ⟨b', off', none⟩) 1 c2') ∧ W.cell? ⟨b, off, none⟩ = some (u0) ∧ W.cell? ⟨b, off + 1, none⟩ = some (u1) ∧ W.cell? ⟨b, off + 2, none⟩ = some (u2) ∧ W.cell? ⟨b, off + 3, none⟩ = some (u3) ∧ W.cell? ⟨b', off', none⟩ = some (v0) ∧ W.cell? ⟨b', off' + 1, none⟩ = some (v1) ∧ W.cell? ⟨b', off' + 2, none⟩ = some (v2) ∧ W.cell? ⟨b', off' + 3, none⟩ = some (v3) := fun W G => ⟨(G.cell (p := ⟨w.heap.size, 3, none⟩) zA).trans f1, (G.cell (p := ⟨w.heap.size + 1, 3, none⟩) zB).trans f2, (G.cell (p := ⟨b, off, none⟩) hbl).trans e0, (G.cell (p := ⟨b, off + 1, none⟩) hbl).trans e1, (G.cell (p := ⟨b, off + 2, none⟩) hbl).trans e2, (G.cell (p := ⟨b, off + 3, none⟩) hbl).trans e3, (G.cell (p := ⟨b', off', none⟩) hbl').trans d0, (G.cell (p := ⟨b', off' + 1, none⟩) hbl').trans d1, (G.cell (p := ⟨b', off' + 2, none⟩) hbl').trans d2, (G.cell (p := ⟨b', off' + 3, none⟩) hbl').trans d3⟩
  change Calls Tryz.prog 35 #[.agg #[.int .i64 23, .string n, .slice A l.length c, .slice (some ⟨b, off, none⟩) 1 c2], .agg #[.int .i64 23, .string n', .slice A' l'.length c', .slice (some ⟨b', off', none⟩) 1 c2'], .string t] w _
  cases hz : tyEq 100 x y
  · rw [hz] at HX
    rw [if_neg (by rw [hz]; decide)] at HV
    clear hz
    go_enter Tryz.func35, Tryz.ntmps35
    go_upto_region 1 with fail
    rw [← hw0]
    clear hw0
    go_upto_region 36 with (go_at_call 66; refine (l08Number_s _ _).mono ?_; rintro e w9 ⟨rfl, rfl⟩)
    clear k1 k2
    go_region_held3 (fun w' => w'.cell? ⟨w.heap.size, 3, none⟩ = some (.slice (some ⟨b, off, none⟩) 1 c2) ∧ w'.cell? ⟨w.heap.size + 1, 3, none⟩ = some (.slice (some ⟨b', off', none⟩) 1 c2') ∧ w'.cell? ⟨b, off, none⟩ = some (u0) ∧ w'.cell? ⟨b, off + 1, none⟩ = some (u1) ∧ w'.cell? ⟨b, off + 2, none⟩ = some (u2) ∧ w'.cell? ⟨b, off + 3, none⟩ = some (u3) ∧ w'.cell? ⟨b', off', none⟩ = some (v0) ∧ w'.cell? ⟨b', off' + 1, none⟩ = some (v1) ∧ w'.cell? ⟨b', off' + 2, none⟩ = some (v2) ∧ w'.cell? ⟨b', off' + 3, none⟩ = some (v3))
      (first | exact KEEP _ K0 | exact KEEP _ B5 | (trace_state; fail))
      (first | (go_at_call 73; ((with_reducible refine (HX.out _ H0.out.1.drew H0.out.2.drew).mono ?_); rintro e w5 ⟨rfl, hb5⟩; have bC5 := Box.call (w := w0.drew) bC hb5; have j5 := bC5.cell; have l5 := bC5.frozen; have B5 := K0.trans (hb5.mono K0.size))))
    all_goals
      have fin := Lib.hid (show Below w.heap.size w w5 from B0.trans (B5.mono B0.size))
      clear j5 l5
      go_wp2_with fail
      refine (l08No_s 3 _ _).mono ?_
      rintro e w7 ⟨rfl, hb7⟩
      have fin7 := fin.out.trans (hb7.mono (fin.out.size))
      have bC7 := bC5.call hb7
      have j5 := bC7.cell
      have l5 := bC7.frozen
      go_wp2
      exact bodyPost_ret (v := .tuple #[.agg #[.int .i64 3, .string t], .bool true]) (by simp [results, Tryz.results35, go_sem, j5]) rfl ⟨by rw [HV.out]; rfl, (fin7.setCell (by simp <;> omega) _).setCell (by simp <;> omega) _⟩
  · rw [hz] at HX
    rw [if_pos hz] at HV
    clear hz
    go_enter Tryz.func35, Tryz.ntmps35
    go_upto_region 1 with fail
    rw [← hw0]
    clear hw0
    go_upto_region 36 with (go_at_call 66; refine (l08Number_s _ _).mono ?_; rintro e w9 ⟨rfl, rfl⟩)
    clear k1 k2
    go_region_held3 (fun w' => w'.cell? ⟨w.heap.size, 3, none⟩ = some (.slice (some ⟨b, off, none⟩) 1 c2) ∧ w'.cell? ⟨w.heap.size + 1, 3, none⟩ = some (.slice (some ⟨b', off', none⟩) 1 c2') ∧ w'.cell? ⟨b, off, none⟩ = some (u0) ∧ w'.cell? ⟨b, off + 1, none⟩ = some (u1) ∧ w'.cell? ⟨b, off + 2, none⟩ = some (u2) ∧ w'.cell? ⟨b, off + 3, none⟩ = some (u3) ∧ w'.cell? ⟨b', off', none⟩ = some (v0) ∧ w'.cell? ⟨b', off' + 1, none⟩ = some (v1) ∧ w'.cell? ⟨b', off' + 2, none⟩ = some (v2) ∧ w'.cell? ⟨b', off' + 3, none⟩ = some (v3))
      (first | exact KEEP _ K0 | exact KEEP _ B5 | (trace_state; fail))
      (first | (go_at_call 73; ((with_reducible refine (HX.out _ H0.out.1.drew H0.out.2.drew).mono ?_); rintro e w5 ⟨rfl, hb5⟩; have bC5 := Box.call (w := w0.drew) bC hb5; have j5 := bC5.cell; have l5 := bC5.frozen; have B5 := K0.trans (hb5.mono K0.size))))
    all_goals
      have fin := Lib.hid (show Below w.heap.size w w5 from B0.trans (B5.mono B0.size))
      go_wp2_with fail
      exact bodyPost_ret (v := .tuple #[.agg #[.int .i64 0, .string ⟨#[]⟩], .bool false]) (by simp [results, Tryz.results35, go_sem, j5]) rfl ⟨by rw [HV.out]; rfl, (fin.out.setCell (by simp <;> omega) _).setCell (by simp <;> omega) _⟩
end Go.Proofs.YtoioljkhinodaaaGreatDoor
namespace Go.Proofs.YtoioljkhinodaaaGreatDoor
open Go.RowKit Go.Shelf

set_option maxHeartbeats 4000000 in
set_option maxRecDepth 20000 in
theorem res_s (m : Nat) (C : World → Prop) (hC : ∀ w w', C w → Below w.heap.size w w' → C w') (ih : WhyAt 35 C m) (k : Int) (n n' : ByteArray) (l l' : List ByteArray) (kids kids' : List Ty) (t : ByteArray) (cs cs' : List Value) (w : World) (hcw : C w) (hd : Ty.deep (.mk k n l kids) ≤ m + 1) (hx : Ty.all shape (.mk k n l kids) = true) (hy : Ty.all shape (.mk k n' l' kids') = true) (ht : t.size + 20 * (m + 1) ≤ 1000000) (hcs : D.Ats w anyB (Ty.ds (.mk k n l kids)) cs) (hcs' : D.Ats w anyB (Ty.ds (.mk k n' l' kids')) cs') (hk : k = 14) :
    Calls Tryz.prog 35 #[.agg cs.toArray, .agg cs'.toArray, .string t] w fun e w' => e = .returned (retR (whyN (m + 1) (.mk k n l kids) (.mk k n' l' kids') t)) ∧ Below w.heap.size w w' := by
  subst hk
  obtain ⟨fx, kx⟩ := Fit.of hx
  obtain ⟨fy, ky⟩ := Fit.of hy
  obtain ⟨x, x', rfl⟩ := two_of (fx.two rfl)
  obtain ⟨y, y', rfl⟩ := two_of (fy.two rfl)
  obtain ⟨A, c, A2, c2, rfl, -, -, -, hk⟩ := Ty.open_ hcs
  obtain ⟨A', c', A2', c2', rfl, -, -, -, hk'⟩ := Ty.open_ hcs'
  obtain ⟨b, off, u0, u1, u2, u3, rfl, -, hbl, hat, e0, e1, e2, e3⟩ := rows_at4 Ty.len hk (show [x, x'][0]? = some x from rfl)
  obtain ⟨b', off', v0, v1, v2, v3, rfl, -, hbl', hat', d0, d1, d2, d3⟩ := rows_at4 Ty.len hk' (show [y, y'][0]? = some y from rfl)
  obtain ⟨bb, oo, r0, r1, r2, r3, ee, -, -, hat2, p0, p1, p2, p3⟩ := rows_at4 Ty.len hk (show [x, x'][1]? = some x' from rfl)
  simp only [Option.some.injEq, Addr.mk.injEq] at ee
  obtain ⟨rfl, rfl, -⟩ := ee
  obtain ⟨bb, oo, x0, x1, x2, x3, ee, -, -, hat2', s0, s1, s2, s3⟩ := rows_at4 Ty.len hk' (show [y, y'][1]? = some y' from rfl)
  simp only [Option.some.injEq, Addr.mk.injEq] at ee
  obtain ⟨rfl, rfl, -⟩ := ee
  have HV := Lib.hid (show whyN (m + 1) (.mk 14 n l [x, x']) (.mk 14 n' l' [y, y']) t = orR (whyN m x y (t ++ ⟨#[46, 111, 107]⟩)) (whyN m x' y' (t ++ ⟨#[46, 101, 114, 114]⟩)) by rw [why_kind (by decide), body14]; rfl)
  have HX := Lib.hid (fun w' hc h h' => ih x y (t ++ ⟨#[46, 111, 107]⟩) [u0, u1, u2, u3] [v0, v1, v2, v3] w' (deep_kid hd (.head _)) (kx x (.head _)) (ky y (.head _)) (by rw [ByteArray.size_append]; show t.size + 3 + 20 * m ≤ 1000000; omega) hc h h')
  have HY := Lib.hid (fun w' hc h h' => ih x' y' (t ++ ⟨#[46, 101, 114, 114]⟩) [r0, r1, r2, r3] [x0, x1, x2, x3] w' (deep_kid hd (.tail _ (.head _))) (kx x' (.tail _ (.head _))) (ky y' (.tail _ (.head _))) (by rw [ByteArray.size_append]; show t.size + 4 + 20 * m ≤ 1000000; omega) hc h h')
  simp only [retR_eq] at HX HY
  obtain ⟨R, hR⟩ : ∃ R, whyN m x y (t ++ ⟨#[46, 111, 107]⟩) = R := ⟨_, rfl⟩
  obtain ⟨R2, hR2⟩ : ∃ R, whyN m x' y' (t ++ ⟨#[46, 101, 114, 114]⟩) = R := ⟨_, rfl⟩
  rw [hR] at HX HV
  rw [hR2] at HY HV
  clear hR hR2
  obtain ⟨w0, hw0, B0, bA, bB, bC⟩ := blocks3 w 30 30 34 [.int .i64 14, .string n, .slice A l.length c, .slice (some ⟨b, off, none⟩) 2 c2] [.int .i64 14, .string n', .slice A' l'.length c', .slice (some ⟨b', off', none⟩) 2 c2'] [.int .i64 0, .string ⟨#[]⟩]
  have H0 := Lib.hid (And.intro (hat.below B0) (And.intro (hat'.below B0) (And.intro (hat2.below B0) (And.intro (hat2'.below B0) (And.intro hC (hC _ _ hcw B0))))))
  replace e0 := (B0.cell (p := ⟨b, off + 0 * 4, none⟩) hbl).trans e0
  replace e1 := (B0.cell (p := ⟨b, off + 0 * 4 + 1, none⟩) hbl).trans e1
  replace e2 := (B0.cell (p := ⟨b, off + 0 * 4 + 2, none⟩) hbl).trans e2
  replace e3 := (B0.cell (p := ⟨b, off + 0 * 4 + 3, none⟩) hbl).trans e3
  replace d0 := (B0.cell (p := ⟨b', off' + 0 * 4, none⟩) hbl').trans d0
  replace d1 := (B0.cell (p := ⟨b', off' + 0 * 4 + 1, none⟩) hbl').trans d1
  replace d2 := (B0.cell (p := ⟨b', off' + 0 * 4 + 2, none⟩) hbl').trans d2
  replace d3 := (B0.cell (p := ⟨b', off' + 0 * 4 + 3, none⟩) hbl').trans d3
  simp only [Nat.zero_mul, Nat.add_zero] at e0 e1 e2 e3 d0 d1 d2 d3
  replace p0 : w0.cell? ⟨b, off + 4, none⟩ = some r0 := (B0.cell (p := ⟨b, off + 4, none⟩) hbl).trans p0
  replace p1 : w0.cell? ⟨b, off + 5, none⟩ = some r1 := (B0.cell (p := ⟨b, off + 5, none⟩) hbl).trans p1
  replace p2 : w0.cell? ⟨b, off + 6, none⟩ = some r2 := (B0.cell (p := ⟨b, off + 6, none⟩) hbl).trans p2
  replace p3 : w0.cell? ⟨b, off + 7, none⟩ = some r3 := (B0.cell (p := ⟨b, off + 7, none⟩) hbl).trans p3
  replace s0 : w0.cell? ⟨b', off' + 4, none⟩ = some x0 := (B0.cell (p := ⟨b', off' + 4, none⟩) hbl').trans s0
  replace s1 : w0.cell? ⟨b', off' + 5, none⟩ = some x1 := (B0.cell (p := ⟨b', off' + 5, none⟩) hbl').trans s1
  replace s2 : w0.cell? ⟨b', off' + 6, none⟩ = some x2 := (B0.cell (p := ⟨b', off' + 6, none⟩) hbl').trans s2
  replace s3 : w0.cell? ⟨b', off' + 7, none⟩ = some x3 := (B0.cell (p := ⟨b', off' + 7, none⟩) hbl').trans s3
  replace hbl : b < w.heap.size + 2 := by omega
  replace hbl' : b' < w.heap.size + 2 := by omega
  have zA : w.heap.size < w.heap.size + 2 := by omega
  have zB : w.heap.size + 1 < w.heap.size + 2 := by omega
  have szw : w.heap.size + 2 ≤ w0.heap.size := by have := bC.lt; omega
  have k1 := bA.cell
  have k2 := bB.cell
  have h1 : ¬ 9223372036854775807 < t.size + 3 := by omega
  have h2 : ¬ 9223372036854775807 < t.size + 4 := by omega
  clear hcs hcs' hk hk' hx hy fx kx fy ky hat hat' hat2 hat2' ih hd ht hC hcw
  have f1 : w0.cell? ⟨w.heap.size, 3, none⟩ = some (.slice (some ⟨b, off, none⟩) 2 c2) := k1 3
  have f2 : w0.cell? ⟨w.heap.size + 1, 3, none⟩ = some (.slice (some ⟨b', off', none⟩) 2 c2') := k2 3
  have K0 : Below w0.heap.size w0 w0.drew := (Below.refl _ w0).drew
  have K1 : Below w0.heap.size w0 (w0.alloc (.cells #[.int .i64 0, .string ⟨#[]⟩] 34)).drew := ((Below.refl _ w0).alloc (Nat.le_refl _) _).drew
  have KEEPX : ∀ W, Below (w.heap.size + 2) w0 W → W.cell? ⟨w.heap.size, 3, none⟩ = some (.slice (some ⟨b, off, none⟩) 2 c2) ∧ W.cell? ⟨w.heap.size + 1, 3, none⟩ = some (.slice (some ⟨b', off', none⟩) 2 c2') ∧ W.cell? ⟨b, off, none⟩ = some (u0) ∧ W.cell? ⟨b, off + 1, none⟩ = some (u1) ∧ W.cell? ⟨b, off + 2, none⟩ = some (u2) ∧ W.cell? ⟨b, off + 3, none⟩ = some (u3) ∧ W.cell? ⟨b', off', none⟩ = some (v0) ∧ W.cell? ⟨b', off' + 1, none⟩ = some (v1) ∧ W.cell? ⟨b', off' + 2, none⟩ = some (v2) ∧ W.cell? ⟨b', off' + 3, none⟩ = some (v3) := fun W G => ⟨(G.cell (p := ⟨w.heap.size, 3, none⟩) zA).trans f1, (G.cell (p := ⟨w.heap.size + 1, 3, none⟩) zB).trans f2, (G.cell (p := ⟨b, off, none⟩) hbl).trans e0, (G.cell (p := ⟨b, off + 1, none⟩) hbl).trans e1, (G.cell (p := ⟨b, off + 2, none⟩) hbl).trans e2, (G.cell (p := ⟨b, off + 3, none⟩) hbl).trans e3, (G.cell (p := ⟨b', off', none⟩) hbl').trans d0, (G.cell (p := ⟨b', off' + 1, none⟩) hbl').trans d1, (G.cell (p := ⟨b', off' + 2, none⟩) hbl').trans d2, (G.cell (p := ⟨b', off' + 3, none⟩) hbl').trans d3⟩
  have KEEP : ∀ W, Below w0.heap.size w0 W → W.cell? ⟨w.heap.size, 3, none⟩ = some (.slice (some ⟨b, off, none⟩) 2 c2) ∧ W.cell? ⟨w.heap.size + 1, 3, none⟩ = some (.slice (some ⟨b', off', none⟩) 2 c2') ∧ W.cell? ⟨b, off, none⟩ = some (u0) ∧ W.cell? ⟨b, off + 1, none⟩ = some (u1) ∧ W.cell? ⟨b, off + 2, none⟩ = some (u2) ∧ W.cell? ⟨b, off + 3, none⟩ = some (u3) ∧ W.cell? ⟨b', off', none⟩ = some (v0) ∧ W.cell? ⟨b', off' + 1, none⟩ = some (v1) ∧ W.cell? ⟨b', off' + 2, none⟩ = some (v2) ∧ W.cell? ⟨b', off' + 3, none⟩ = some (v3) := fun W G => KEEPX W (G.mono szw)
  have KEEPY : ∀ W, Below (w.heap.size + 2) w0 W → W.cell? ⟨w.heap.size, 3, none⟩ = some (.slice (some ⟨b, off, none⟩) 2 c2) ∧ W.cell? ⟨w.heap.size + 1, 3, none⟩ = some (.slice (some ⟨b', off', none⟩) 2 c2') ∧ W.cell? ⟨b, off + 4, none⟩ = some (r0) ∧ W.cell? ⟨b, off + 5, none⟩ = some (r1) ∧ W.cell? ⟨b, off + 6, none⟩ = some (r2) ∧ W.cell? ⟨b, off + 7, none⟩ = some (r3) ∧ W.cell? ⟨b', off' + 4, none⟩ = some (x0) ∧ W.cell? ⟨b', off' + 5, none⟩ = some (x1) ∧ W.cell? ⟨b', off' + 6, none⟩ = some (x2) ∧ W.cell? ⟨b', off' + 7, none⟩ = some (x3) := fun W G => ⟨(G.cell (p := ⟨w.heap.size, 3, none⟩) zA).trans f1, (G.cell (p := ⟨w.heap.size + 1, 3, none⟩) zB).trans f2, (G.cell (p := ⟨b, off + 4, none⟩) hbl).trans p0, (G.cell (p := ⟨b, off + 5, none⟩) hbl).trans p1, (G.cell (p := ⟨b, off + 6, none⟩) hbl).trans p2, (G.cell (p := ⟨b, off + 7, none⟩) hbl).trans p3, (G.cell (p := ⟨b', off' + 4, none⟩) hbl').trans s0, (G.cell (p := ⟨b', off' + 5, none⟩) hbl').trans s1, (G.cell (p := ⟨b', off' + 6, none⟩) hbl').trans s2, (G.cell (p := ⟨b', off' + 7, none⟩) hbl').trans s3⟩
  have HXX := Lib.hid (fun W (G : Below w0.heap.size w0 W) => HX.out W (H0.out.2.2.2.2.1 _ _ H0.out.2.2.2.2.2 G) (H0.out.1.below G) (H0.out.2.1.below G))
  have HYY := Lib.hid (fun W (G : Below w0.heap.size w0 W) => HY.out W (H0.out.2.2.2.2.1 _ _ H0.out.2.2.2.2.2 G) (H0.out.2.2.1.below G) (H0.out.2.2.2.1.below G))
  clear HX HY H0
  change Calls Tryz.prog 35 #[.agg #[.int .i64 14, .string n, .slice A l.length c, .slice (some ⟨b, off, none⟩) 2 c2], .agg #[.int .i64 14, .string n', .slice A' l'.length c', .slice (some ⟨b', off', none⟩) 2 c2'], .string t] w _
  go_enter Tryz.func35, Tryz.ntmps35
  go_upto_region 1 with fail
  rw [← hw0]
  clear hw0
  go_upto_region 13 with (go_at_call 66; refine (l08Number_s _ _).mono ?_; rintro e w9 ⟨rfl, rfl⟩)
  clear k1 k2 p0 p1 p2 p3 s0 s1 s2 s3
  go_cut [8, 9] (fun p o wx => ∃ g, p = .pointer (some ⟨g, 0, none⟩) ∧ o = .bool (rsO R) ∧ Below w0.heap.size w0 wx ∧ w0.heap.size ≤ g ∧ g < wx.heap.size ∧ wx.cell? ⟨g, 0, none⟩ = some (.int .i64 (rsK R)) ∧ wx.cell? ⟨g, 1, none⟩ = some (.string (rsT R)))
  case first =>
    go_region_held3 (fun w' => w'.cell? ⟨w.heap.size, 3, none⟩ = some (.slice (some ⟨b, off, none⟩) 2 c2) ∧ w'.cell? ⟨w.heap.size + 1, 3, none⟩ = some (.slice (some ⟨b', off', none⟩) 2 c2') ∧ w'.cell? ⟨b, off, none⟩ = some (u0) ∧ w'.cell? ⟨b, off + 1, none⟩ = some (u1) ∧ w'.cell? ⟨b, off + 2, none⟩ = some (u2) ∧ w'.cell? ⟨b, off + 3, none⟩ = some (u3) ∧ w'.cell? ⟨b', off', none⟩ = some (v0) ∧ w'.cell? ⟨b', off' + 1, none⟩ = some (v1) ∧ w'.cell? ⟨b', off' + 2, none⟩ = some (v2) ∧ w'.cell? ⟨b', off' + 3, none⟩ = some (v3))
      (first | exact KEEP _ K0 | exact KEEP _ K1 | exact KEEP _ B5 | exact KEEP _ (B5.alloc B5.size _) | exact KEEP _ ((B5.setCell (by first | exact Nat.le_refl _ | exact K0.size | exact B5.size | (simp; done)) _).setCell (by first | exact Nat.le_refl _ | exact K0.size | exact B5.size | (simp; done)) _) | exact KEEP _ (((B5.alloc B5.size _).setCell (by first | exact Nat.le_refl _ | exact K0.size | exact B5.size | (simp; done)) _).setCell (by first | exact Nat.le_refl _ | exact K0.size | exact B5.size | (simp; done)) _) | (trace_state; fail))
      (first | (go_at_call 35; (first | (with_reducible refine (HXX.out _ K0).mono ?_) | (with_reducible refine (HXX.out _ K1).mono ?_)); rintro e w5 ⟨rfl, hb5⟩; have B5 : Below w0.heap.size w0 w5 := (by first | exact K0.trans (hb5.mono K0.size) | exact K1.trans (hb5.mono K1.size)); (first | (have bG : Box w5 w0.heap.size 34 [.int .i64 0, .string ⟨#[]⟩] := Box.call (w := (w0.alloc (.cells #[.int .i64 0, .string ⟨#[]⟩] 34)).drew) (Box.new w0 34 [.int .i64 0, .string ⟨#[]⟩]) hb5; have j5 := bG.cell; have l5 := bG.frozen; have z5 := bG.lt) | skip)))
    all_goals
      go_wp2_with fail
      go_meet
      first | exact ⟨_, rfl, rfl, recEnd B5 bG (by first | exact Nat.le_refl _ | exact K0.size | exact B5.size | (simp; done))⟩ | exact ⟨_, rfl, rfl, recEnd2 B5⟩
  case rest =>
    obtain ⟨g, rfl, rfl, B1, hg, hgl, m0, m1⟩ := hcut
    obtain ⟨W1, hW1⟩ : ∃ W1, W1 = wc := ⟨_, rfl⟩
    rw [← hW1] at B1 hgl m0 m1 ⊢
    have hb6 := B0.trans (B1.mono B0.size)
    have bC1 := bC.call B1
    clear hW1 e0 e1 e2 e3 d0 d1 d2 d3 K0 K1 f1 f2 HXX KEEP KEEPX
    have j5 := bC1.cell
    have l5 := bC1.frozen
    cases hO : rsO R
    · have HN := Lib.hid (show whyN (m + 1) (.mk 14 n l [x, x']) (.mk 14 n' l' [y, y']) t = R2 by rw [HV.out, rsO_no hO]; rfl)
      clear hO
      have B1N := B1.mono szw
      obtain ⟨f1, f2, p0, p1, p2, p3, s0, s1, s2, s3⟩ := KEEPY W1 B1N
      have N0 : Below (w.heap.size + 2) w0 W1.drew := B1N.drew
      have V0 : Below w0.heap.size w0 W1.drew := B1.drew
      go_upto_region 16 with fail
      clear j5 l5 m0 m1
      go_region_held3 (fun w' => w'.cell? ⟨w.heap.size, 3, none⟩ = some (.slice (some ⟨b, off, none⟩) 2 c2) ∧ w'.cell? ⟨w.heap.size + 1, 3, none⟩ = some (.slice (some ⟨b', off', none⟩) 2 c2') ∧ w'.cell? ⟨b, off + 4, none⟩ = some (r0) ∧ w'.cell? ⟨b, off + 5, none⟩ = some (r1) ∧ w'.cell? ⟨b, off + 6, none⟩ = some (r2) ∧ w'.cell? ⟨b, off + 7, none⟩ = some (r3) ∧ w'.cell? ⟨b', off' + 4, none⟩ = some (x0) ∧ w'.cell? ⟨b', off' + 5, none⟩ = some (x1) ∧ w'.cell? ⟨b', off' + 6, none⟩ = some (x2) ∧ w'.cell? ⟨b', off' + 7, none⟩ = some (x3))
        (first | exact KEEPY _ N0 | exact KEEPY _ B5 | exact KEEPY _ ((B5.setCell (by simp) _).setCell (by simp) _) | (trace_state; fail))
        (first | (go_at_call 35; ((with_reducible refine (HYY.out _ V0).mono ?_); rintro e w5 ⟨rfl, hb5⟩; have bC5 := Box.call (w := W1.drew) bC1 hb5; have j5 := bC5.cell; have l5 := bC5.frozen; have B5 := N0.trans (hb5.mono (Nat.le_trans szw N0.size)))))
      all_goals
        have fin := Lib.hid (show Below w.heap.size w w5 from B0.trans (B5.mono (Nat.le_add_right _ _)))
        go_wp2_with fail
        exact bodyPost_ret (v := .tuple #[.agg #[.int .i64 (rsK R2), .string (rsT R2)], .bool (rsO R2)]) (by simp [results, Tryz.results35, go_sem, j5]) rfl ⟨by rw [HN.out, retR_eq], (fin.out.setCell (by simp <;> omega) _).setCell (by simp <;> omega) _⟩
    · have HN := Lib.hid (show whyN (m + 1) (.mk 14 n l [x, x']) (.mk 14 n' l' [y, y']) t = R by
        rw [HV.out]
        cases R with
        | none => cases hO
        | some r => rfl)
      go_wp2
      exact bodyPost_ret (v := .tuple #[.agg #[.int .i64 (rsK R), .string (rsT R)], .bool true]) (by simp [results, Tryz.results35, go_sem, j5]) rfl ⟨by rw [HN.out, retR_eq, hO], (hb6.setCell (by simp <;> omega) _).setCell (by simp <;> omega) _⟩
end Go.Proofs.YtoioljkhinodaaaGreatDoor
namespace Go.Proofs.YtoioljkhinodaaaGreatDoor
open Go.RowKit Go.Shelf

set_option maxHeartbeats 4000000 in
set_option maxRecDepth 20000 in
theorem call15_s (m : Nat) (C : World → Prop) (hC : ∀ w w', C w → Below w.heap.size w w' → C w') (ih : WhyAt 35 C m) (k : Int) (n n' : ByteArray) (l l' : List ByteArray) (kids kids' : List Ty) (t : ByteArray) (cs cs' : List Value) (w : World) (hcw : C w) (hd : Ty.deep (.mk k n l kids) ≤ m + 1) (hx : Ty.all shape (.mk k n l kids) = true) (hy : Ty.all shape (.mk k n' l' kids') = true) (ht : t.size + 20 * (m + 1) ≤ 1000000) (hcs : D.Ats w anyB (Ty.ds (.mk k n l kids)) cs) (hcs' : D.Ats w anyB (Ty.ds (.mk k n' l' kids')) cs') (hk : k = 15) :
    Calls Tryz.prog 35 #[.agg cs.toArray, .agg cs'.toArray, .string t] w fun e w' => e = .returned (retR (whyN (m + 1) (.mk k n l kids) (.mk k n' l' kids') t)) ∧ Below w.heap.size w w' := by
  subst hk
  have HV := Lib.hid (show whyN (m + 1) (.mk 15 n l kids) (.mk 15 n' l' kids') t = (if kids.length = kids'.length then firstUp (tupR (whyN m) kids kids' t) kids.length else some (3, t)) by rw [why_kind (by decide), body15])
  obtain ⟨fx, kx⟩ := Fit.of hx
  obtain ⟨fy, ky⟩ := Fit.of hy
  obtain ⟨A, c, A2, c2, rfl, -, -, -, -⟩ := Ty.open_ hcs
  obtain ⟨A', c', A2', c2', rfl, -, -, -, -⟩ := Ty.open_ hcs'
  obtain ⟨w0, hw0, B0, bA, bB, bC⟩ := blocks3 w 30 30 34 [.int .i64 15, .string n, .slice A l.length c, .slice A2 kids.length c2] [.int .i64 15, .string n', .slice A' l'.length c', .slice A2' kids'.length c2'] [.int .i64 0, .string ⟨#[]⟩]
  have HX := Lib.hid (l08Tuple_s m C hC ih 15 n n' l l' kids kids' t [.int .i64 15, .string n, .slice A l.length c, .slice A2 kids.length c2] [.int .i64 15, .string n', .slice A' l'.length c', .slice A2' kids'.length c2'] w0 (hC _ _ hcw B0) hd hx hy ht (hcs.below B0) (hcs'.below B0) rfl)
  obtain ⟨R, hR⟩ : ∃ R, (if kids.length = kids'.length then firstUp (tupR (whyN m) kids kids' t) kids.length else some (3, t)) = R := ⟨_, rfl⟩
  rw [hR] at HX HV
  simp only [retR_eq] at HX
  have k1 := bA.cell
  have k2 := bB.cell
  clear hcs hcs' hx hy fx fy kx ky ih hd ht hC hcw hR
  change Calls Tryz.prog 35 #[.agg #[.int .i64 15, .string n, .slice A l.length c, .slice A2 kids.length c2], .agg #[.int .i64 15, .string n', .slice A' l'.length c', .slice A2' kids'.length c2'], .string t] w _
  go_enter Tryz.func35, Tryz.ntmps35
  go_upto_region 1 with fail
  rw [← hw0]
  clear hw0
  go_wp2_with (first | (go_at_call 66; refine (l08Number_s _ _).mono ?_; rintro e w9 ⟨rfl, rfl⟩))
  refine HX.out.mono ?_
  rintro e w5 ⟨rfl, hb5⟩
  have fin := Lib.hid (B0.trans (hb5.mono B0.size))
  have bC5 := bC.call hb5
  have j5 := bC5.cell
  have l5 := bC5.frozen
  clear k1 k2
  go_wp2
  exact bodyPost_ret (v := .tuple #[.agg #[.int .i64 (rsK R), .string (rsT R)], .bool (rsO R)]) (by simp [results, Tryz.results35, go_sem, j5]) rfl ⟨by rw [HV.out, retR_eq], (fin.out.setCell (by simp <;> omega) _).setCell (by simp <;> omega) _⟩
set_option maxHeartbeats 4000000 in
set_option maxRecDepth 20000 in
theorem call16_s (m : Nat) (C : World → Prop) (hC : ∀ w w', C w → Below w.heap.size w w' → C w') (ih : WhyAt 35 C m) (k : Int) (n n' : ByteArray) (l l' : List ByteArray) (kids kids' : List Ty) (t : ByteArray) (cs cs' : List Value) (w : World) (hcw : C w) (hd : Ty.deep (.mk k n l kids) ≤ m + 1) (hx : Ty.all shape (.mk k n l kids) = true) (hy : Ty.all shape (.mk k n' l' kids') = true) (ht : t.size + 20 * (m + 1) ≤ 1000000) (hcs : D.Ats w anyB (Ty.ds (.mk k n l kids)) cs) (hcs' : D.Ats w anyB (Ty.ds (.mk k n' l' kids')) cs') (hk : k = 16) :
    Calls Tryz.prog 35 #[.agg cs.toArray, .agg cs'.toArray, .string t] w fun e w' => e = .returned (retR (whyN (m + 1) (.mk k n l kids) (.mk k n' l' kids') t)) ∧ Below w.heap.size w w' := by
  subst hk
  have HV := Lib.hid (show whyN (m + 1) (.mk 16 n l kids) (.mk 16 n' l' kids') t = firstUp (recR (whyN m) l l' kids kids' t) l'.length by rw [why_kind (by decide), body16])
  obtain ⟨fx, kx⟩ := Fit.of hx
  obtain ⟨fy, ky⟩ := Fit.of hy
  obtain ⟨A, c, A2, c2, rfl, -, -, -, -⟩ := Ty.open_ hcs
  obtain ⟨A', c', A2', c2', rfl, -, -, -, -⟩ := Ty.open_ hcs'
  obtain ⟨w0, hw0, B0, bA, bB, bC⟩ := blocks3 w 30 30 34 [.int .i64 16, .string n, .slice A l.length c, .slice A2 kids.length c2] [.int .i64 16, .string n', .slice A' l'.length c', .slice A2' kids'.length c2'] [.int .i64 0, .string ⟨#[]⟩]
  have HX := Lib.hid (l08Record_s m C hC ih 16 n n' l l' kids kids' t [.int .i64 16, .string n, .slice A l.length c, .slice A2 kids.length c2] [.int .i64 16, .string n', .slice A' l'.length c', .slice A2' kids'.length c2'] w0 (hC _ _ hcw B0) hd hx hy ht (hcs.below B0) (hcs'.below B0) rfl)
  obtain ⟨R, hR⟩ : ∃ R, firstUp (recR (whyN m) l l' kids kids' t) l'.length = R := ⟨_, rfl⟩
  rw [hR] at HX HV
  simp only [retR_eq] at HX
  have k1 := bA.cell
  have k2 := bB.cell
  clear hcs hcs' hx hy fx fy kx ky ih hd ht hC hcw hR
  change Calls Tryz.prog 35 #[.agg #[.int .i64 16, .string n, .slice A l.length c, .slice A2 kids.length c2], .agg #[.int .i64 16, .string n', .slice A' l'.length c', .slice A2' kids'.length c2'], .string t] w _
  go_enter Tryz.func35, Tryz.ntmps35
  go_upto_region 1 with fail
  rw [← hw0]
  clear hw0
  go_wp2_with (first | (go_at_call 66; refine (l08Number_s _ _).mono ?_; rintro e w9 ⟨rfl, rfl⟩))
  refine HX.out.mono ?_
  rintro e w5 ⟨rfl, hb5⟩
  have fin := Lib.hid (B0.trans (hb5.mono B0.size))
  have bC5 := bC.call hb5
  have j5 := bC5.cell
  have l5 := bC5.frozen
  clear k1 k2
  go_wp2
  exact bodyPost_ret (v := .tuple #[.agg #[.int .i64 (rsK R), .string (rsT R)], .bool (rsO R)]) (by simp [results, Tryz.results35, go_sem, j5]) rfl ⟨by rw [HV.out, retR_eq], (fin.out.setCell (by simp <;> omega) _).setCell (by simp <;> omega) _⟩
set_option maxHeartbeats 4000000 in
set_option maxRecDepth 20000 in
theorem call17_s (m : Nat) (C : World → Prop) (hC : ∀ w w', C w → Below w.heap.size w w' → C w') (ih : WhyAt 35 C m) (k : Int) (n n' : ByteArray) (l l' : List ByteArray) (kids kids' : List Ty) (t : ByteArray) (cs cs' : List Value) (w : World) (hcw : C w) (hd : Ty.deep (.mk k n l kids) ≤ m + 1) (hx : Ty.all shape (.mk k n l kids) = true) (hy : Ty.all shape (.mk k n' l' kids') = true) (ht : t.size + 20 * (m + 1) ≤ 1000000) (hcs : D.Ats w anyB (Ty.ds (.mk k n l kids)) cs) (hcs' : D.Ats w anyB (Ty.ds (.mk k n' l' kids')) cs') (hk : k = 17) :
    Calls Tryz.prog 35 #[.agg cs.toArray, .agg cs'.toArray, .string t] w fun e w' => e = .returned (retR (whyN (m + 1) (.mk k n l kids) (.mk k n' l' kids') t)) ∧ Below w.heap.size w w' := by
  subst hk
  have HV := Lib.hid (show whyN (m + 1) (.mk 17 n l kids) (.mk 17 n' l' kids') t = firstUp (varR (whyN m) l l' kids kids' t) l.length by rw [why_kind (by decide), body17 (by omega)])
  obtain ⟨fx, kx⟩ := Fit.of hx
  obtain ⟨fy, ky⟩ := Fit.of hy
  obtain ⟨A, c, A2, c2, rfl, -, -, -, -⟩ := Ty.open_ hcs
  obtain ⟨A', c', A2', c2', rfl, -, -, -, -⟩ := Ty.open_ hcs'
  obtain ⟨w0, hw0, B0, bA, bB, bC⟩ := blocks3 w 30 30 34 [.int .i64 17, .string n, .slice A l.length c, .slice A2 kids.length c2] [.int .i64 17, .string n', .slice A' l'.length c', .slice A2' kids'.length c2'] [.int .i64 0, .string ⟨#[]⟩]
  have HX := Lib.hid (l08Variant_s m C hC ih 17 n n' l l' kids kids' t [.int .i64 17, .string n, .slice A l.length c, .slice A2 kids.length c2] [.int .i64 17, .string n', .slice A' l'.length c', .slice A2' kids'.length c2'] w0 (hC _ _ hcw B0) hd hx hy ht (hcs.below B0) (hcs'.below B0) rfl)
  obtain ⟨R, hR⟩ : ∃ R, firstUp (varR (whyN m) l l' kids kids' t) l.length = R := ⟨_, rfl⟩
  rw [hR] at HX HV
  simp only [retR_eq] at HX
  have k1 := bA.cell
  have k2 := bB.cell
  clear hcs hcs' hx hy fx fy kx ky ih hd ht hC hcw hR
  change Calls Tryz.prog 35 #[.agg #[.int .i64 17, .string n, .slice A l.length c, .slice A2 kids.length c2], .agg #[.int .i64 17, .string n', .slice A' l'.length c', .slice A2' kids'.length c2'], .string t] w _
  go_enter Tryz.func35, Tryz.ntmps35
  go_upto_region 1 with fail
  rw [← hw0]
  clear hw0
  go_wp2_with (first | (go_at_call 66; refine (l08Number_s _ _).mono ?_; rintro e w9 ⟨rfl, rfl⟩))
  refine HX.out.mono ?_
  rintro e w5 ⟨rfl, hb5⟩
  have fin := Lib.hid (B0.trans (hb5.mono B0.size))
  have bC5 := bC.call hb5
  have j5 := bC5.cell
  have l5 := bC5.frozen
  clear k1 k2
  go_wp2
  exact bodyPost_ret (v := .tuple #[.agg #[.int .i64 (rsK R), .string (rsT R)], .bool (rsO R)]) (by simp [results, Tryz.results35, go_sem, j5]) rfl ⟨by rw [HV.out, retR_eq], (fin.out.setCell (by simp <;> omega) _).setCell (by simp <;> omega) _⟩
end Go.Proofs.YtoioljkhinodaaaGreatDoor
namespace Go.Proofs.YtoioljkhinodaaaGreatDoor
open Go.RowKit Go.Shelf

set_option maxHeartbeats 4000000 in
set_option maxRecDepth 20000 in
theorem enum18_s (m : Nat) (C : World → Prop) (_hC : ∀ w w', C w → Below w.heap.size w w' → C w') (_ih : WhyAt 35 C m) (k : Int) (n n' : ByteArray) (l l' : List ByteArray) (kids kids' : List Ty) (t : ByteArray) (cs cs' : List Value) (w : World) (_hcw : C w) (hd : Ty.deep (.mk k n l kids) ≤ m + 1) (hx : Ty.all shape (.mk k n l kids) = true) (hy : Ty.all shape (.mk k n' l' kids') = true) (ht : t.size + 20 * (m + 1) ≤ 1000000) (hcs : D.Ats w anyB (Ty.ds (.mk k n l kids)) cs) (hcs' : D.Ats w anyB (Ty.ds (.mk k n' l' kids')) cs') (hk : k = 18) :
    Calls Tryz.prog 35 #[.agg cs.toArray, .agg cs'.toArray, .string t] w fun e w' => e = .returned (retR (whyN (m + 1) (.mk k n l kids) (.mk k n' l' kids') t)) ∧ Below w.heap.size w w' := by
  subst hk
  have HV := Lib.hid (show whyN (m + 1) (.mk 18 n l kids) (.mk 18 n' l' kids') t = firstUp (varR (whyN m) l l' kids kids' t) l.length by rw [why_kind (by decide), body17 (by omega)])
  obtain ⟨fx, kx⟩ := Fit.of hx
  have hz := fx.none (by omega)
  have lab := fx.lab
  have lm := fx.many
  obtain ⟨A, c, A2, c2, rfl, -, -, hl, -⟩ := Ty.open_ hcs
  obtain ⟨A', c', A2', c2', rfl, -, -, hl', -⟩ := Ty.open_ hcs'
  obtain ⟨w0, hw0, B0, bA, bB, bC⟩ := blocks3 w 30 30 34 [.int .i64 18, .string n, .slice A l.length c, .slice A2 kids.length c2] [.int .i64 18, .string n', .slice A' l'.length c', .slice A2' kids'.length c2'] [.int .i64 0, .string ⟨#[]⟩]
  have HL := Lib.hid (And.intro hl hl')
  have HLAB := Lib.hid lab
  have HFF := Lib.hid (show ∀ i s k, l[i]? = some s → idxS l' s = some k → varR (whyN m) l l' kids kids' t i = none from fun i s k h1 h2 => (varR_some h1 h2).trans (by rw [hz]; exact kidR_nil))
  have HFN := Lib.hid (show ∀ i s, l[i]? = some s → idxS l' s = none → varR (whyN m) l l' kids kids' t i = some (5, dotT t s) from fun i s h1 h2 => varR_none h1 h2)
  clear hcs hcs' hx hy fx kx hd hz lab hl hl'
  generalize varR (whyN m) l l' kids kids' t = FF at HV HFF HFN
  have kA := bA.cell
  have kB := bB.cell
  change Calls Tryz.prog 35 #[.agg #[.int .i64 18, .string n, .slice A l.length c, .slice A2 kids.length c2], .agg #[.int .i64 18, .string n', .slice A' l'.length c', .slice A2' kids'.length c2'], .string t] w _
  go_enter Tryz.func35, Tryz.ntmps35
  go_upto_region 1 with fail
  rw [← hw0]
  clear hw0
  go_wp2_with (first | (go_at_call 66; refine (l08Number_s _ _).mono ?_; rintro e w9 ⟨rfl, rfl⟩))
  go_loopw [10] (fun i wr => ∃ q : Nat, q ≤ l.length ∧ i = .int .i64 q ∧ firstUp FF q = none ∧ Below w.heap.size w wr ∧ Box wr w.heap.size 30 [.int .i64 18, .string n, .slice A l.length c, .slice A2 kids.length c2] ∧ Box wr (w.heap.size + 1) 30 [.int .i64 18, .string n', .slice A' l'.length c', .slice A2' kids'.length c2'] ∧ Box wr (w.heap.size + 2) 34 [.int .i64 0, .string ⟨#[]⟩]) (fun i _ => l.length - (intOf i).toNat)
  case atStart => exact ⟨0, Nat.zero_le _, rfl, rfl, B0, bA, bB, bC⟩
  clear bA bB bC B0 kA kB
  case round =>
    obtain ⟨q, hq, rfl, hno, hb, bA, bB, bC⟩ := hrel
    have HNO := Lib.hid hno
    clear hno
    have kA := bA.cell
    have kB := bB.cell
    by_cases hlt : q < l.length
    · obtain ⟨s, hs⟩ : ∃ s, l[q]? = some s := ⟨l[q], List.getElem?_eq_getElem hlt⟩
      have hk0 : (0 : Int) ≤ (q : Int) := by omega
      have hk1 : (q : Int) < (l.length : Int) := by omega
      obtain ⟨ba, offa, u0, e, -, hbl0, hat0, c0⟩ := rows_at1 strD_length HL.out.1 hs
      subst e
      obtain ⟨rfl, -⟩ := str_open hat0
      have hss := HLAB.out s (List.mem_of_getElem? hs)
      replace c0 := (hb.cell (p := ⟨ba, offa + q, none⟩) hbl0).trans c0
      have hbl : ba < wr.heap.size := Nat.lt_of_lt_of_le hbl0 hb.size
      have HS := Lib.hid hs
      clear hat0 hs
      obtain ⟨ix, hix⟩ : ∃ ix, idxS l' s = ix := ⟨_, rfl⟩
      have HLb := Lib.hid (fun w' hv => l08Label_s l' s A' c' w' hv)
      rw [hix] at HLb
      have HIX := Lib.hid hix
      clear hix
      have HO := Lib.hid (HL.out.2.below hb)
      have g1 := cell_regrown (show wr.cell? ⟨w.heap.size, 2, none⟩ = some (.slice (some ⟨ba, offa, none⟩) l.length c) from kA 2)
      have g2 := cell_regrown (show wr.cell? ⟨w.heap.size + 1, 2, none⟩ = some (.slice A' l'.length c') from kB 2)
      have g3 := cell_regrown c0
      obtain ⟨J, hJ⟩ : ∃ J, idxI ix = J := ⟨_, rfl⟩
      rw [hJ] at HLb
      go_wp2_with fail
      refine wp_region_quiet_below (by kernel_rfl) (by kernel_rfl) ?_
      repeat (first | go_big_quiet_step (exact regrown_same (HLb.out _ (HO.out.below (below_regrown _ _ _)))) | quiet_step (exact regrown_same (HLb.out _ (HO.out.below (below_regrown _ _ _)))))
      refine wpQuiet_nil ?_
      intro w2 hw2
      have hb2 := below_of_regrown hw2
      have hb' := hb.trans (hb2.mono hb.size)
      replace bA := bA.call hb2
      replace bB := bB.call hb2
      replace bC := bC.call hb2
      replace c0 := (hb2.cell (p := ⟨ba, offa + q, none⟩) hbl).trans c0
      clear hw2 g1 g2 g3 kA kB HO HLb hb hb2
      have kA := bA.cell
      have kB := bB.cell
      have a1 : ¬ 9223372036854775807 < t.size + 1 := by omega
      have a2 : ¬ 9223372036854775807 < t.size + 1 + s.size := by omega
      subst hJ
      cases ix with
      | none =>
        have HVV := Lib.hid (show firstUp FF l.length = some (5, dotT t s) from firstUp_hit (q := q + 1) (by rw [firstUp_next HNO.out]; exact HFN.out _ _ HS.out HIX.out) hlt)
        have e5 : idxI none = -1 := rfl
        rw [e5]
        go_wp2_with fail
        refine (l08No_s 5 _ _).mono ?_
        rintro e w3 ⟨rfl, hb3⟩
        have hb4 := hb'.trans (hb3.mono hb'.size)
        replace bC := bC.call hb3
        clear c0 kA kB
        have j5 := bC.cell
        have l5 := bC.frozen
        go_wp2
        exact bodyPost_ret (v := .tuple #[.agg #[.int .i64 5, .string (t ++ ⟨#[46]⟩ ++ s)], .bool true]) (by simp [results, Tryz.results35, go_sem, j5]; try rfl) rfl ⟨by rw [HV.out, HVV.out, retR_eq]; rfl, (hb4.setCell (by simp <;> omega) _).setCell (by simp <;> omega) _⟩
      | some k2 =>
        have HN := Lib.hid (show firstUp FF (q + 1) = none by rw [firstUp_next HNO.out]; exact HFF.out _ _ _ HS.out HIX.out)
        have e5 : idxI (some k2) = (k2 : Int) := rfl
        rw [e5]
        have i1 : ¬ (k2 : Int) < 0 := by omega
        go_wp2
        go_roundw
        case rel => exact ⟨q + 1, by omega, by go_num, HN.out, hb', bA, bB, bC⟩
        case measure => simp [intOf]; omega
    · obtain rfl : q = l.length := by omega
      have j5 := bC.cell
      have l5 := bC.frozen
      go_wp2
      exact bodyPost_ret (v := .tuple #[.agg #[.int .i64 0, .string ⟨#[]⟩], .bool false]) (by simp [results, Tryz.results35, go_sem, j5]) rfl ⟨by rw [HV.out, HNO.out]; rfl, (hb.setCell (by simp <;> omega) _).setCell (by simp <;> omega) _⟩
set_option maxHeartbeats 4000000 in
set_option maxRecDepth 20000 in
theorem enum19_s (m : Nat) (C : World → Prop) (_hC : ∀ w w', C w → Below w.heap.size w w' → C w') (_ih : WhyAt 35 C m) (k : Int) (n n' : ByteArray) (l l' : List ByteArray) (kids kids' : List Ty) (t : ByteArray) (cs cs' : List Value) (w : World) (_hcw : C w) (hd : Ty.deep (.mk k n l kids) ≤ m + 1) (hx : Ty.all shape (.mk k n l kids) = true) (hy : Ty.all shape (.mk k n' l' kids') = true) (ht : t.size + 20 * (m + 1) ≤ 1000000) (hcs : D.Ats w anyB (Ty.ds (.mk k n l kids)) cs) (hcs' : D.Ats w anyB (Ty.ds (.mk k n' l' kids')) cs') (hk : k = 19) :
    Calls Tryz.prog 35 #[.agg cs.toArray, .agg cs'.toArray, .string t] w fun e w' => e = .returned (retR (whyN (m + 1) (.mk k n l kids) (.mk k n' l' kids') t)) ∧ Below w.heap.size w w' := by
  subst hk
  have HV := Lib.hid (show whyN (m + 1) (.mk 19 n l kids) (.mk 19 n' l' kids') t = firstUp (varR (whyN m) l l' kids kids' t) l.length by rw [why_kind (by decide), body17 (by omega)])
  obtain ⟨fx, kx⟩ := Fit.of hx
  have hz := fx.none (by omega)
  have lab := fx.lab
  have lm := fx.many
  obtain ⟨A, c, A2, c2, rfl, -, -, hl, -⟩ := Ty.open_ hcs
  obtain ⟨A', c', A2', c2', rfl, -, -, hl', -⟩ := Ty.open_ hcs'
  obtain ⟨w0, hw0, B0, bA, bB, bC⟩ := blocks3 w 30 30 34 [.int .i64 19, .string n, .slice A l.length c, .slice A2 kids.length c2] [.int .i64 19, .string n', .slice A' l'.length c', .slice A2' kids'.length c2'] [.int .i64 0, .string ⟨#[]⟩]
  have HL := Lib.hid (And.intro hl hl')
  have HLAB := Lib.hid lab
  have HFF := Lib.hid (show ∀ i s k, l[i]? = some s → idxS l' s = some k → varR (whyN m) l l' kids kids' t i = none from fun i s k h1 h2 => (varR_some h1 h2).trans (by rw [hz]; exact kidR_nil))
  have HFN := Lib.hid (show ∀ i s, l[i]? = some s → idxS l' s = none → varR (whyN m) l l' kids kids' t i = some (5, dotT t s) from fun i s h1 h2 => varR_none h1 h2)
  clear hcs hcs' hx hy fx kx hd hz lab hl hl'
  generalize varR (whyN m) l l' kids kids' t = FF at HV HFF HFN
  have kA := bA.cell
  have kB := bB.cell
  change Calls Tryz.prog 35 #[.agg #[.int .i64 19, .string n, .slice A l.length c, .slice A2 kids.length c2], .agg #[.int .i64 19, .string n', .slice A' l'.length c', .slice A2' kids'.length c2'], .string t] w _
  go_enter Tryz.func35, Tryz.ntmps35
  go_upto_region 1 with fail
  rw [← hw0]
  clear hw0
  go_wp2_with (first | (go_at_call 66; refine (l08Number_s _ _).mono ?_; rintro e w9 ⟨rfl, rfl⟩))
  go_loopw [10] (fun i wr => ∃ q : Nat, q ≤ l.length ∧ i = .int .i64 q ∧ firstUp FF q = none ∧ Below w.heap.size w wr ∧ Box wr w.heap.size 30 [.int .i64 19, .string n, .slice A l.length c, .slice A2 kids.length c2] ∧ Box wr (w.heap.size + 1) 30 [.int .i64 19, .string n', .slice A' l'.length c', .slice A2' kids'.length c2'] ∧ Box wr (w.heap.size + 2) 34 [.int .i64 0, .string ⟨#[]⟩]) (fun i _ => l.length - (intOf i).toNat)
  case atStart => exact ⟨0, Nat.zero_le _, rfl, rfl, B0, bA, bB, bC⟩
  clear bA bB bC B0 kA kB
  case round =>
    obtain ⟨q, hq, rfl, hno, hb, bA, bB, bC⟩ := hrel
    have HNO := Lib.hid hno
    clear hno
    have kA := bA.cell
    have kB := bB.cell
    by_cases hlt : q < l.length
    · obtain ⟨s, hs⟩ : ∃ s, l[q]? = some s := ⟨l[q], List.getElem?_eq_getElem hlt⟩
      have hk0 : (0 : Int) ≤ (q : Int) := by omega
      have hk1 : (q : Int) < (l.length : Int) := by omega
      obtain ⟨ba, offa, u0, e, -, hbl0, hat0, c0⟩ := rows_at1 strD_length HL.out.1 hs
      subst e
      obtain ⟨rfl, -⟩ := str_open hat0
      have hss := HLAB.out s (List.mem_of_getElem? hs)
      replace c0 := (hb.cell (p := ⟨ba, offa + q, none⟩) hbl0).trans c0
      have hbl : ba < wr.heap.size := Nat.lt_of_lt_of_le hbl0 hb.size
      have HS := Lib.hid hs
      clear hat0 hs
      obtain ⟨ix, hix⟩ : ∃ ix, idxS l' s = ix := ⟨_, rfl⟩
      have HLb := Lib.hid (fun w' hv => l08Label_s l' s A' c' w' hv)
      rw [hix] at HLb
      have HIX := Lib.hid hix
      clear hix
      have HO := Lib.hid (HL.out.2.below hb)
      have g1 := cell_regrown (show wr.cell? ⟨w.heap.size, 2, none⟩ = some (.slice (some ⟨ba, offa, none⟩) l.length c) from kA 2)
      have g2 := cell_regrown (show wr.cell? ⟨w.heap.size + 1, 2, none⟩ = some (.slice A' l'.length c') from kB 2)
      have g3 := cell_regrown c0
      obtain ⟨J, hJ⟩ : ∃ J, idxI ix = J := ⟨_, rfl⟩
      rw [hJ] at HLb
      go_wp2_with fail
      refine wp_region_quiet_below (by kernel_rfl) (by kernel_rfl) ?_
      repeat (first | go_big_quiet_step (exact regrown_same (HLb.out _ (HO.out.below (below_regrown _ _ _)))) | quiet_step (exact regrown_same (HLb.out _ (HO.out.below (below_regrown _ _ _)))))
      refine wpQuiet_nil ?_
      intro w2 hw2
      have hb2 := below_of_regrown hw2
      have hb' := hb.trans (hb2.mono hb.size)
      replace bA := bA.call hb2
      replace bB := bB.call hb2
      replace bC := bC.call hb2
      replace c0 := (hb2.cell (p := ⟨ba, offa + q, none⟩) hbl).trans c0
      clear hw2 g1 g2 g3 kA kB HO HLb hb hb2
      have kA := bA.cell
      have kB := bB.cell
      have a1 : ¬ 9223372036854775807 < t.size + 1 := by omega
      have a2 : ¬ 9223372036854775807 < t.size + 1 + s.size := by omega
      subst hJ
      cases ix with
      | none =>
        have HVV := Lib.hid (show firstUp FF l.length = some (5, dotT t s) from firstUp_hit (q := q + 1) (by rw [firstUp_next HNO.out]; exact HFN.out _ _ HS.out HIX.out) hlt)
        have e5 : idxI none = -1 := rfl
        rw [e5]
        go_wp2_with fail
        refine (l08No_s 5 _ _).mono ?_
        rintro e w3 ⟨rfl, hb3⟩
        have hb4 := hb'.trans (hb3.mono hb'.size)
        replace bC := bC.call hb3
        clear c0 kA kB
        have j5 := bC.cell
        have l5 := bC.frozen
        go_wp2
        exact bodyPost_ret (v := .tuple #[.agg #[.int .i64 5, .string (t ++ ⟨#[46]⟩ ++ s)], .bool true]) (by simp [results, Tryz.results35, go_sem, j5]; try rfl) rfl ⟨by rw [HV.out, HVV.out, retR_eq]; rfl, (hb4.setCell (by simp <;> omega) _).setCell (by simp <;> omega) _⟩
      | some k2 =>
        have HN := Lib.hid (show firstUp FF (q + 1) = none by rw [firstUp_next HNO.out]; exact HFF.out _ _ _ HS.out HIX.out)
        have e5 : idxI (some k2) = (k2 : Int) := rfl
        rw [e5]
        have i1 : ¬ (k2 : Int) < 0 := by omega
        go_wp2
        go_roundw
        case rel => exact ⟨q + 1, by omega, by go_num, HN.out, hb', bA, bB, bC⟩
        case measure => simp [intOf]; omega
    · obtain rfl : q = l.length := by omega
      have j5 := bC.cell
      have l5 := bC.frozen
      go_wp2
      exact bodyPost_ret (v := .tuple #[.agg #[.int .i64 0, .string ⟨#[]⟩], .bool false]) (by simp [results, Tryz.results35, go_sem, j5]) rfl ⟨by rw [HV.out, HNO.out]; rfl, (hb.setCell (by simp <;> omega) _).setCell (by simp <;> omega) _⟩
end Go.Proofs.YtoioljkhinodaaaGreatDoor
namespace Go.Proofs.YtoioljkhinodaaaGreatDoor
open Go.RowKit Go.Shelf

theorem whyAt_s (C : World → Prop) (hC : ∀ w w', C w → Below w.heap.size w w' → C w') : ∀ m, WhyAt 35 C m := by
  intro m
  induction m with
  | zero => intro x y t cs cs' w hd; exact absurd (Ty.deep_pos x) (by omega)
  | succ m ih =>
    intro x y t cs cs' w hd hx hy ht hcw hcs hcs'
    obtain ⟨k, n, l, kids⟩ := x
    obtain ⟨k', n', l', kids'⟩ := y
    cases h1 : numK k
    case true =>
      cases h2 : numK k'
      · exact diff10_s m k k' n n' l l' kids kids' t cs cs' w hcs hcs' h1 h2 (fun e => by rw [e, h2] at h1; cases h1)
      · cases h3 : numIn k k'
        · exact num_out_s m k k' n n' l l' kids kids' t cs cs' w hcs hcs' h1 h2 h3
        · exact num_in_s m k k' n n' l l' kids kids' t cs cs' w hcs hcs' h1 h2 h3
    case false =>
      by_cases e : k = k'
      · subst e
        have hr : k < 12 ∨ 23 < k ∨ k = 12 ∨ k = 13 ∨ k = 14 ∨ k = 15 ∨ k = 16 ∨ k = 17 ∨ k = 18 ∨ k = 19 ∨ k = 20 ∨ k = 21 ∨ k = 22 ∨ k = 23 := by omega
        rcases hr with hr | hr | hr | hr | hr | hr | hr | hr | hr | hr | hr | hr | hr | hr
        · exact plain_s m k k n n' l l' kids kids' t cs cs' w hcs hcs' rfl h1 (.inl hr)
        · exact plain_s m k k n n' l l' kids kids' t cs cs' w hcs hcs' rfl h1 (.inr hr)
        · exact kid12_s m C hC ih k n n' l l' kids kids' t cs cs' w hcw hd hx hy ht hcs hcs' hr
        · exact kid13_s m C hC ih k n n' l l' kids kids' t cs cs' w hcw hd hx hy ht hcs hcs' hr
        · exact res_s m C hC ih k n n' l l' kids kids' t cs cs' w hcw hd hx hy ht hcs hcs' hr
        · exact call15_s m C hC ih k n n' l l' kids kids' t cs cs' w hcw hd hx hy ht hcs hcs' hr
        · exact call16_s m C hC ih k n n' l l' kids kids' t cs cs' w hcw hd hx hy ht hcs hcs' hr
        · exact call17_s m C hC ih k n n' l l' kids kids' t cs cs' w hcw hd hx hy ht hcs hcs' hr
        · exact enum18_s m C hC ih k n n' l l' kids kids' t cs cs' w hcw hd hx hy ht hcs hcs' hr
        · exact enum19_s m C hC ih k n n' l l' kids kids' t cs cs' w hcw hd hx hy ht hcs hcs' hr
        · cases hn : (n.toList == n'.toList)
          · exact name20b_s m k k n n' l l' kids kids' t cs cs' w hcs hcs' hr hr hn
          · exact name20a_s m k k n n' l l' kids kids' t cs cs' w hcs hcs' hr hr hn
        · cases hn : (n.toList == n'.toList)
          · exact name21b_s m k k n n' l l' kids kids' t cs cs' w hcs hcs' hr hr hn
          · exact name21a_s m k k n n' l l' kids kids' t cs cs' w hcs hcs' hr hr hn
        · exact str22_s m C hC ih k n n' l l' kids kids' t cs cs' w hcw hd hx hy ht hcs hcs' hr
        · exact str23_s m C hC ih k n n' l l' kids kids' t cs cs' w hcw hd hx hy ht hcs hcs' hr
      · cases h2 : numK k'
        · exact diff00_s m k k' n n' l l' kids kids' t cs cs' w hcs hcs' h1 h2 e
        · exact diff01_s m k k' n n' l l' kids kids' t cs cs' w hcs hcs' h1 h2 e
end Go.Proofs.YtoioljkhinodaaaGreatDoor
