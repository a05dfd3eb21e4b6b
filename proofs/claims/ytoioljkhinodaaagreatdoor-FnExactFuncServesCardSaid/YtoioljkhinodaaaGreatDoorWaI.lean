/- Why not, by the program: numbers, kinds, names. Why not: lists and options. Why not: streams and futures. Why not: results. Why not, by the program: tuples, records, variants, enums, flags. Why not: the program's function. -/
import Derived.Test.YtoioljkhinodaaaGreatDoorWaE
import Derived.Deep.RegionHeld3
import Derived.Test.YtoioljkhinodaaaGreatDoorSameTy
import Derived.Deep.DeepCutAuto
namespace Go.Proofs.YtoioljkhinodaaaGreatDoor
open Go.RowKit Go.Shelf

set_option maxHeartbeats 4000000 in
set_option maxRecDepth 20000 in
theorem num_in_i (m : Nat) (k k' : Int) (n n' : ByteArray) (l l' : List ByteArray) (kids kids' : List Ty) (t : ByteArray) (cs cs' : List Value) (w : World) (hcs : D.Ats w anyB (Ty.ds (.mk k n l kids)) cs) (hcs' : D.Ats w anyB (Ty.ds (.mk k' n' l' kids')) cs') (h1 : numK k = true) (h2 : numK k' = true) (h3 : numIn k k' = true) :
    Calls Tryz.prog 32 #[.agg cs.toArray, .agg cs'.toArray, .string t] w fun e w' => e = .returned (retR (whyN (m + 1) (.mk k n l kids) (.mk k' n' l' kids') t)) ∧ Below w.heap.size w w' := by
  have HV := Lib.hid (show whyN (m + 1) (.mk k n l kids) (.mk k' n' l' kids') t = none by rw [whyN_eq, if_pos (by rw [h1, h2]; rfl), if_pos h3])
  have HN1 := Lib.hid (fun w => numRange_i0 k w)
  have HN2 := Lib.hid (fun w => numRange_i0 k' w)
  unfold RetRange at HN1 HN2
  have h1 := (numK_range k).trans h1
  have h2 := (numK_range k').trans h2
  obtain ⟨x, ex⟩ : ∃ x, numRange k = x := ⟨_, rfl⟩
  obtain ⟨y, ey⟩ : ∃ y, numRange k' = y := ⟨_, rfl⟩
  obtain ⟨x1, x2, x3⟩ := x
  obtain ⟨y1, y2, y3⟩ := y
  unfold numIn at h3
  rw [ex] at HN1 h1 h3
  rw [ey] at HN2 h2 h3
  dsimp only at HN1 HN2 h1 h2 h3
  obtain rfl : x3 = true := h1
  obtain rfl : y3 = true := h2
  rw [Bool.and_eq_true, decide_eq_true_eq, decide_eq_true_eq] at h3
  obtain ⟨g1, g2⟩ := h3
  have g1' : ¬ x1 < y1 := by omega
  have g2' : ¬ y2 < x2 := by omega
  obtain ⟨A, c, A2, c2, rfl, -, -, -, -⟩ := Ty.open_ hcs
  obtain ⟨A', c', A2', c2', rfl, -, -, -, -⟩ := Ty.open_ hcs'
  obtain ⟨w0, hw0, B0, bA, bB, bC⟩ := blocks3 w 30 30 34 [.int .i64 k, .string n, .slice A l.length c, .slice A2 kids.length c2] [.int .i64 k', .string n', .slice A' l'.length c', .slice A2' kids'.length c2'] [.int .i64 0, .string ⟨#[]⟩]
  clear hcs hcs' h1 h2 ex ey g1 g2
  have kA := bA.cell
  have kB := bB.cell
  have j5 := bC.cell
  have l5 := bC.frozen
  change Calls Tryz.prog 32 #[.agg #[.int .i64 k, .string n, .slice A l.length c, .slice A2 kids.length c2], .agg #[.int .i64 k', .string n', .slice A' l'.length c', .slice A2' kids'.length c2'], .string t] w _
  go_enter Tryz.func32, Tryz.ntmps32
  go_upto_region 1 with fail
  rw [← hw0]
  clear hw0
  go_wp2_with (first | (go_at_call 60; (first | (with_reducible refine (HN1.out _).mono ?_) | (with_reducible refine (HN2.out _).mono ?_)); rintro e w9 ⟨rfl, rfl⟩))
  refine (none_i _).mono ?_
  rintro e w3 ⟨rfl, hb3⟩
  have hb4 := B0.trans (hb3.mono B0.size)
  replace bC := bC.call hb3
  clear j5 l5 kA kB
  have j5 := bC.cell
  have l5 := bC.frozen
  go_wp2
  exact bodyPost_ret (v := .tuple #[.agg #[.int .i64 0, .string ⟨#[]⟩], .bool false]) (by simp [results, Tryz.results32, go_sem, j5]) rfl ⟨by rw [HV.out]; rfl, (hb4.setCell (by simp <;> omega) _).setCell (by simp <;> omega) _⟩
set_option maxHeartbeats 4000000 in
set_option maxRecDepth 20000 in
theorem num_out_i (m : Nat) (k k' : Int) (n n' : ByteArray) (l l' : List ByteArray) (kids kids' : List Ty) (t : ByteArray) (cs cs' : List Value) (w : World) (hcs : D.Ats w anyB (Ty.ds (.mk k n l kids)) cs) (hcs' : D.Ats w anyB (Ty.ds (.mk k' n' l' kids')) cs') (h1 : numK k = true) (h2 : numK k' = true) (h3 : numIn k k' = false) :
    Calls Tryz.prog 32 #[.agg cs.toArray, .agg cs'.toArray, .string t] w fun e w' => e = .returned (retR (whyN (m + 1) (.mk k n l kids) (.mk k' n' l' kids') t)) ∧ Below w.heap.size w w' := by
  have HV := Lib.hid (show whyN (m + 1) (.mk k n l kids) (.mk k' n' l' kids') t = some (2, t) by rw [whyN_eq, if_pos (by rw [h1, h2]; rfl), if_neg (by rw [h3]; decide)])
  have HN1 := Lib.hid (fun w => numRange_i0 k w)
  have HN2 := Lib.hid (fun w => numRange_i0 k' w)
  unfold RetRange at HN1 HN2
  have h1 := (numK_range k).trans h1
  have h2 := (numK_range k').trans h2
  obtain ⟨x, ex⟩ : ∃ x, numRange k = x := ⟨_, rfl⟩
  obtain ⟨y, ey⟩ : ∃ y, numRange k' = y := ⟨_, rfl⟩
  obtain ⟨x1, x2, x3⟩ := x
  obtain ⟨y1, y2, y3⟩ := y
  unfold numIn at h3
  rw [ex] at HN1 h1 h3
  rw [ey] at HN2 h2 h3
  dsimp only at HN1 HN2 h1 h2 h3
  obtain rfl : x3 = true := h1
  obtain rfl : y3 = true := h2
  clear ex ey h1 h2
  by_cases g1 : x1 < y1
  · clear h3
    obtain ⟨A, c, A2, c2, rfl, -, -, -, -⟩ := Ty.open_ hcs
    obtain ⟨A', c', A2', c2', rfl, -, -, -, -⟩ := Ty.open_ hcs'
    obtain ⟨w0, hw0, B0, bA, bB, bC⟩ := blocks3 w 30 30 34 [.int .i64 k, .string n, .slice A l.length c, .slice A2 kids.length c2] [.int .i64 k', .string n', .slice A' l'.length c', .slice A2' kids'.length c2'] [.int .i64 0, .string ⟨#[]⟩]
    clear hcs hcs'
    have kA := bA.cell
    have kB := bB.cell
    have j5 := bC.cell
    have l5 := bC.frozen
    change Calls Tryz.prog 32 #[.agg #[.int .i64 k, .string n, .slice A l.length c, .slice A2 kids.length c2], .agg #[.int .i64 k', .string n', .slice A' l'.length c', .slice A2' kids'.length c2'], .string t] w _
    go_enter Tryz.func32, Tryz.ntmps32
    go_upto_region 1 with fail
    rw [← hw0]
    clear hw0
    go_wp2_with (first | (go_at_call 60; (first | (with_reducible refine (HN1.out _).mono ?_) | (with_reducible refine (HN2.out _).mono ?_)); rintro e w9 ⟨rfl, rfl⟩))
    refine (reason_i 2 _ _).mono ?_
    rintro e w3 ⟨rfl, hb3⟩
    have hb4 := B0.trans (hb3.mono B0.size)
    replace bC := bC.call hb3
    clear j5 l5 kA kB
    have j5 := bC.cell
    have l5 := bC.frozen
    go_wp2
    exact bodyPost_ret (v := .tuple #[.agg #[.int .i64 2, .string t], .bool true]) (by simp [results, Tryz.results32, go_sem, j5]) rfl ⟨by rw [HV.out]; rfl, (hb4.setCell (by simp <;> omega) _).setCell (by simp <;> omega) _⟩
  · have g2 : y2 < x2 := by
      simp only [Bool.and_eq_false_iff, decide_eq_false_iff_not] at h3
      omega
    clear h3
    obtain ⟨A, c, A2, c2, rfl, -, -, -, -⟩ := Ty.open_ hcs
    obtain ⟨A', c', A2', c2', rfl, -, -, -, -⟩ := Ty.open_ hcs'
    obtain ⟨w0, hw0, B0, bA, bB, bC⟩ := blocks3 w 30 30 34 [.int .i64 k, .string n, .slice A l.length c, .slice A2 kids.length c2] [.int .i64 k', .string n', .slice A' l'.length c', .slice A2' kids'.length c2'] [.int .i64 0, .string ⟨#[]⟩]
    clear hcs hcs'
    have kA := bA.cell
    have kB := bB.cell
    have j5 := bC.cell
    have l5 := bC.frozen
    change Calls Tryz.prog 32 #[.agg #[.int .i64 k, .string n, .slice A l.length c, .slice A2 kids.length c2], .agg #[.int .i64 k', .string n', .slice A' l'.length c', .slice A2' kids'.length c2'], .string t] w _
    go_enter Tryz.func32, Tryz.ntmps32
    go_upto_region 1 with fail
    rw [← hw0]
    clear hw0
    go_wp2_with (first | (go_at_call 60; (first | (with_reducible refine (HN1.out _).mono ?_) | (with_reducible refine (HN2.out _).mono ?_)); rintro e w9 ⟨rfl, rfl⟩))
    refine (reason_i 2 _ _).mono ?_
    rintro e w3 ⟨rfl, hb3⟩
    have hb4 := B0.trans (hb3.mono B0.size)
    replace bC := bC.call hb3
    clear j5 l5 kA kB
    have j5 := bC.cell
    have l5 := bC.frozen
    go_wp2
    exact bodyPost_ret (v := .tuple #[.agg #[.int .i64 2, .string t], .bool true]) (by simp [results, Tryz.results32, go_sem, j5]) rfl ⟨by rw [HV.out]; rfl, (hb4.setCell (by simp <;> omega) _).setCell (by simp <;> omega) _⟩
set_option maxHeartbeats 4000000 in
set_option maxRecDepth 20000 in
theorem diff00_i (m : Nat) (k k' : Int) (n n' : ByteArray) (l l' : List ByteArray) (kids kids' : List Ty) (t : ByteArray) (cs cs' : List Value) (w : World) (hcs : D.Ats w anyB (Ty.ds (.mk k n l kids)) cs) (hcs' : D.Ats w anyB (Ty.ds (.mk k' n' l' kids')) cs') (h1 : numK k = false) (h2 : numK k' = false) (h3 : ¬ k = k') :
    Calls Tryz.prog 32 #[.agg cs.toArray, .agg cs'.toArray, .string t] w fun e w' => e = .returned (retR (whyN (m + 1) (.mk k n l kids) (.mk k' n' l' kids') t)) ∧ Below w.heap.size w w' := by
  have HV := Lib.hid (show whyN (m + 1) (.mk k n l kids) (.mk k' n' l' kids') t = some (1, t) by rw [whyN_eq, if_neg (by rw [h1, h2]; decide), if_neg h3])
  have g1 : (k != k') = true := by rw [bne_iff_ne]; exact h3
  have g2 : (k == k') = false := beq_eq_false_iff_ne.2 h3
  have HN1 := Lib.hid (fun w => numRange_i0 k w)
  have HN2 := Lib.hid (fun w => numRange_i0 k' w)
  unfold RetRange at HN1 HN2
  rw [numK_range, h1] at HN1
  rw [numK_range, h2] at HN2
  obtain ⟨A, c, A2, c2, rfl, -, -, -, -⟩ := Ty.open_ hcs
  obtain ⟨A', c', A2', c2', rfl, -, -, -, -⟩ := Ty.open_ hcs'
  obtain ⟨w0, hw0, B0, bA, bB, bC⟩ := blocks3 w 30 30 34 [.int .i64 k, .string n, .slice A l.length c, .slice A2 kids.length c2] [.int .i64 k', .string n', .slice A' l'.length c', .slice A2' kids'.length c2'] [.int .i64 0, .string ⟨#[]⟩]
  clear hcs hcs' h1 h2 h3
  have kA := bA.cell
  have kB := bB.cell
  have j5 := bC.cell
  have l5 := bC.frozen
  change Calls Tryz.prog 32 #[.agg #[.int .i64 k, .string n, .slice A l.length c, .slice A2 kids.length c2], .agg #[.int .i64 k', .string n', .slice A' l'.length c', .slice A2' kids'.length c2'], .string t] w _
  go_enter Tryz.func32, Tryz.ntmps32
  go_upto_region 1 with fail
  rw [← hw0]
  clear hw0
  go_wp2_with (first | (go_at_call 60; (first | (with_reducible refine (HN1.out _).mono ?_) | (with_reducible refine (HN2.out _).mono ?_)); rintro e w9 ⟨rfl, rfl⟩))
  refine (reason_i 1 _ _).mono ?_
  rintro e w3 ⟨rfl, hb3⟩
  have hb4 := B0.trans (hb3.mono B0.size)
  replace bC := bC.call hb3
  clear j5 l5 kA kB
  have j5 := bC.cell
  have l5 := bC.frozen
  go_wp2
  exact bodyPost_ret (v := .tuple #[.agg #[.int .i64 1, .string t], .bool true]) (by simp [results, Tryz.results32, go_sem, j5]) rfl ⟨by rw [HV.out]; rfl, (hb4.setCell (by simp <;> omega) _).setCell (by simp <;> omega) _⟩
set_option maxHeartbeats 4000000 in
set_option maxRecDepth 20000 in
theorem diff01_i (m : Nat) (k k' : Int) (n n' : ByteArray) (l l' : List ByteArray) (kids kids' : List Ty) (t : ByteArray) (cs cs' : List Value) (w : World) (hcs : D.Ats w anyB (Ty.ds (.mk k n l kids)) cs) (hcs' : D.Ats w anyB (Ty.ds (.mk k' n' l' kids')) cs') (h1 : numK k = false) (h2 : numK k' = true) (h3 : ¬ k = k') :
    Calls Tryz.prog 32 #[.agg cs.toArray, .agg cs'.toArray, .string t] w fun e w' => e = .returned (retR (whyN (m + 1) (.mk k n l kids) (.mk k' n' l' kids') t)) ∧ Below w.heap.size w w' := by
  have HV := Lib.hid (show whyN (m + 1) (.mk k n l kids) (.mk k' n' l' kids') t = some (1, t) by rw [whyN_eq, if_neg (by rw [h1, h2]; decide), if_neg h3])
  have g1 : (k != k') = true := by rw [bne_iff_ne]; exact h3
  have g2 : (k == k') = false := beq_eq_false_iff_ne.2 h3
  have HN1 := Lib.hid (fun w => numRange_i0 k w)
  have HN2 := Lib.hid (fun w => numRange_i0 k' w)
  unfold RetRange at HN1 HN2
  rw [numK_range, h1] at HN1
  rw [numK_range, h2] at HN2
  obtain ⟨A, c, A2, c2, rfl, -, -, -, -⟩ := Ty.open_ hcs
  obtain ⟨A', c', A2', c2', rfl, -, -, -, -⟩ := Ty.open_ hcs'
  obtain ⟨w0, hw0, B0, bA, bB, bC⟩ := blocks3 w 30 30 34 [.int .i64 k, .string n, .slice A l.length c, .slice A2 kids.length c2] [.int .i64 k', .string n', .slice A' l'.length c', .slice A2' kids'.length c2'] [.int .i64 0, .string ⟨#[]⟩]
  clear hcs hcs' h1 h2 h3
  have kA := bA.cell
  have kB := bB.cell
  have j5 := bC.cell
  have l5 := bC.frozen
  change Calls Tryz.prog 32 #[.agg #[.int .i64 k, .string n, .slice A l.length c, .slice A2 kids.length c2], .agg #[.int .i64 k', .string n', .slice A' l'.length c', .slice A2' kids'.length c2'], .string t] w _
  go_enter Tryz.func32, Tryz.ntmps32
  go_upto_region 1 with fail
  rw [← hw0]
  clear hw0
  go_wp2_with (first | (go_at_call 60; (first | (with_reducible refine (HN1.out _).mono ?_) | (with_reducible refine (HN2.out _).mono ?_)); rintro e w9 ⟨rfl, rfl⟩))
  refine (reason_i 1 _ _).mono ?_
  rintro e w3 ⟨rfl, hb3⟩
  have hb4 := B0.trans (hb3.mono B0.size)
  replace bC := bC.call hb3
  clear j5 l5 kA kB
  have j5 := bC.cell
  have l5 := bC.frozen
  go_wp2
  exact bodyPost_ret (v := .tuple #[.agg #[.int .i64 1, .string t], .bool true]) (by simp [results, Tryz.results32, go_sem, j5]) rfl ⟨by rw [HV.out]; rfl, (hb4.setCell (by simp <;> omega) _).setCell (by simp <;> omega) _⟩
set_option maxHeartbeats 4000000 in
set_option maxRecDepth 20000 in
theorem diff10_i (m : Nat) (k k' : Int) (n n' : ByteArray) (l l' : List ByteArray) (kids kids' : List Ty) (t : ByteArray) (cs cs' : List Value) (w : World) (hcs : D.Ats w anyB (Ty.ds (.mk k n l kids)) cs) (hcs' : D.Ats w anyB (Ty.ds (.mk k' n' l' kids')) cs') (h1 : numK k = true) (h2 : numK k' = false) (h3 : ¬ k = k') :
    Calls Tryz.prog 32 #[.agg cs.toArray, .agg cs'.toArray, .string t] w fun e w' => e = .returned (retR (whyN (m + 1) (.mk k n l kids) (.mk k' n' l' kids') t)) ∧ Below w.heap.size w w' := by
  have HV := Lib.hid (show whyN (m + 1) (.mk k n l kids) (.mk k' n' l' kids') t = some (1, t) by rw [whyN_eq, if_neg (by rw [h1, h2]; decide), if_neg h3])
  have g1 : (k != k') = true := by rw [bne_iff_ne]; exact h3
  have g2 : (k == k') = false := beq_eq_false_iff_ne.2 h3
  have HN1 := Lib.hid (fun w => numRange_i0 k w)
  have HN2 := Lib.hid (fun w => numRange_i0 k' w)
  unfold RetRange at HN1 HN2
  rw [numK_range, h1] at HN1
  rw [numK_range, h2] at HN2
  obtain ⟨A, c, A2, c2, rfl, -, -, -, -⟩ := Ty.open_ hcs
  obtain ⟨A', c', A2', c2', rfl, -, -, -, -⟩ := Ty.open_ hcs'
  obtain ⟨w0, hw0, B0, bA, bB, bC⟩ := blocks3 w 30 30 34 [.int .i64 k, .string n, .slice A l.length c, .slice A2 kids.length c2] [.int .i64 k', .string n', .slice A' l'.length c', .slice A2' kids'.length c2'] [.int .i64 0, .string ⟨#[]⟩]
  clear hcs hcs' h1 h2 h3
  have kA := bA.cell
  have kB := bB.cell
  have j5 := bC.cell
  have l5 := bC.frozen
  change Calls Tryz.prog 32 #[.agg #[.int .i64 k, .string n, .slice A l.length c, .slice A2 kids.length c2], .agg #[.int .i64 k', .string n', .slice A' l'.length c', .slice A2' kids'.length c2'], .string t] w _
  go_enter Tryz.func32, Tryz.ntmps32
  go_upto_region 1 with fail
  rw [← hw0]
  clear hw0
  go_wp2_with (first | (go_at_call 60; (first | (with_reducible refine (HN1.out _).mono ?_) | (with_reducible refine (HN2.out _).mono ?_)); rintro e w9 ⟨rfl, rfl⟩))
  refine (reason_i 1 _ _).mono ?_
  rintro e w3 ⟨rfl, hb3⟩
  have hb4 := B0.trans (hb3.mono B0.size)
  replace bC := bC.call hb3
  clear j5 l5 kA kB
  have j5 := bC.cell
  have l5 := bC.frozen
  go_wp2
  exact bodyPost_ret (v := .tuple #[.agg #[.int .i64 1, .string t], .bool true]) (by simp [results, Tryz.results32, go_sem, j5]) rfl ⟨by rw [HV.out]; rfl, (hb4.setCell (by simp <;> omega) _).setCell (by simp <;> omega) _⟩
set_option maxHeartbeats 4000000 in
set_option maxRecDepth 20000 in
theorem plain_i (m : Nat) (k k' : Int) (n n' : ByteArray) (l l' : List ByteArray) (kids kids' : List Ty) (t : ByteArray) (cs cs' : List Value) (w : World) (hcs : D.Ats w anyB (Ty.ds (.mk k n l kids)) cs) (hcs' : D.Ats w anyB (Ty.ds (.mk k' n' l' kids')) cs') (e : k' = k) (h1 : numK k = false) (h2 : k < 12 ∨ 23 < k) :
    Calls Tryz.prog 32 #[.agg cs.toArray, .agg cs'.toArray, .string t] w fun e w' => e = .returned (retR (whyN (m + 1) (.mk k n l kids) (.mk k' n' l' kids') t)) ∧ Below w.heap.size w w' := by
  subst e
  have HV := Lib.hid (show whyN (m + 1) (.mk k' n l kids) (.mk k' n' l' kids') t = none by rw [why_kind h1, body0 h2])
  have gd : (k' != k') = false := by simp
  have q12 : (k' == 12) = false := beq_eq_false_iff_ne.2 (by omega)
  have q13 : (k' == 13) = false := beq_eq_false_iff_ne.2 (by omega)
  have q14 : (k' == 14) = false := beq_eq_false_iff_ne.2 (by omega)
  have q15 : (k' == 15) = false := beq_eq_false_iff_ne.2 (by omega)
  have q16 : (k' == 16) = false := beq_eq_false_iff_ne.2 (by omega)
  have q17 : (k' == 17) = false := beq_eq_false_iff_ne.2 (by omega)
  have q18 : (k' == 18) = false := beq_eq_false_iff_ne.2 (by omega)
  have q19 : (k' == 19) = false := beq_eq_false_iff_ne.2 (by omega)
  have q20 : (k' == 20) = false := beq_eq_false_iff_ne.2 (by omega)
  have q21 : (k' == 21) = false := beq_eq_false_iff_ne.2 (by omega)
  have q22 : (k' == 22) = false := beq_eq_false_iff_ne.2 (by omega)
  have q23 : (k' == 23) = false := beq_eq_false_iff_ne.2 (by omega)
  have HN1 := Lib.hid (fun w => numRange_i0 k' w)
  unfold RetRange at HN1
  rw [numK_range, h1] at HN1
  have HN2 := HN1
  obtain ⟨A, c, A2, c2, rfl, -, -, -, -⟩ := Ty.open_ hcs
  obtain ⟨A', c', A2', c2', rfl, -, -, -, -⟩ := Ty.open_ hcs'
  obtain ⟨w0, hw0, B0, bA, bB, bC⟩ := blocks3 w 30 30 34 [.int .i64 k', .string n, .slice A l.length c, .slice A2 kids.length c2] [.int .i64 k', .string n', .slice A' l'.length c', .slice A2' kids'.length c2'] [.int .i64 0, .string ⟨#[]⟩]
  clear hcs hcs' h1 h2
  have kA := bA.cell
  have kB := bB.cell
  have j5 := bC.cell
  have l5 := bC.frozen
  change Calls Tryz.prog 32 #[.agg #[.int .i64 k', .string n, .slice A l.length c, .slice A2 kids.length c2], .agg #[.int .i64 k', .string n', .slice A' l'.length c', .slice A2' kids'.length c2'], .string t] w _
  go_enter Tryz.func32, Tryz.ntmps32
  go_upto_region 1 with fail
  rw [← hw0]
  clear hw0
  go_wp2_with (first | (go_at_call 60; (first | (with_reducible refine (HN1.out _).mono ?_) | (with_reducible refine (HN2.out _).mono ?_)); rintro e w9 ⟨rfl, rfl⟩))
  refine (none_i _).mono ?_
  rintro e w3 ⟨rfl, hb3⟩
  have hb4 := B0.trans (hb3.mono B0.size)
  replace bC := bC.call hb3
  clear j5 l5 kA kB
  have j5 := bC.cell
  have l5 := bC.frozen
  go_wp2
  exact bodyPost_ret (v := .tuple #[.agg #[.int .i64 0, .string ⟨#[]⟩], .bool false]) (by simp [results, Tryz.results32, go_sem, j5]) rfl ⟨by rw [HV.out]; rfl, (hb4.setCell (by simp <;> omega) _).setCell (by simp <;> omega) _⟩
set_option maxHeartbeats 4000000 in
set_option maxRecDepth 20000 in
theorem name20a_i (m : Nat) (k k' : Int) (n n' : ByteArray) (l l' : List ByteArray) (kids kids' : List Ty) (t : ByteArray) (cs cs' : List Value) (w : World) (hcs : D.Ats w anyB (Ty.ds (.mk k n l kids)) cs) (hcs' : D.Ats w anyB (Ty.ds (.mk k' n' l' kids')) cs') (e : k = 20) (e2 : k' = 20) (h1 : (n.toList == n'.toList) = true) :
    Calls Tryz.prog 32 #[.agg cs.toArray, .agg cs'.toArray, .string t] w fun e w' => e = .returned (retR (whyN (m + 1) (.mk k n l kids) (.mk k' n' l' kids') t)) ∧ Below w.heap.size w w' := by
  subst e e2
  have HV := Lib.hid (show whyN (m + 1) (.mk 20 n l kids) (.mk 20 n' l' kids') t = none by rw [why_kind (by decide), body20 (by omega)]; exact if_pos h1)
  have gn : (n.toList != n'.toList) = false := by simp only [bne]; rw [h1]; rfl
  have HN1 := Lib.hid (fun w => numRange_i0 20 w)
  have HN2 := Lib.hid (fun w => numRange_i0 20 w)
  unfold RetRange at HN1 HN2
  obtain ⟨A, c, A2, c2, rfl, -, -, -, -⟩ := Ty.open_ hcs
  obtain ⟨A', c', A2', c2', rfl, -, -, -, -⟩ := Ty.open_ hcs'
  obtain ⟨w0, hw0, B0, bA, bB, bC⟩ := blocks3 w 30 30 34 [.int .i64 20, .string n, .slice A l.length c, .slice A2 kids.length c2] [.int .i64 20, .string n', .slice A' l'.length c', .slice A2' kids'.length c2'] [.int .i64 0, .string ⟨#[]⟩]
  clear hcs hcs'
  have kA := bA.cell
  have kB := bB.cell
  have j5 := bC.cell
  have l5 := bC.frozen
  change Calls Tryz.prog 32 #[.agg #[.int .i64 20, .string n, .slice A l.length c, .slice A2 kids.length c2], .agg #[.int .i64 20, .string n', .slice A' l'.length c', .slice A2' kids'.length c2'], .string t] w _
  go_enter Tryz.func32, Tryz.ntmps32
  go_upto_region 1 with fail
  rw [← hw0]
  clear hw0
  go_wp2_with (first | (go_at_call 60; (first | (with_reducible refine (HN1.out _).mono ?_) | (with_reducible refine (HN2.out _).mono ?_)); rintro e w9 ⟨rfl, rfl⟩))
  refine (none_i _).mono ?_
  rintro e w3 ⟨rfl, hb3⟩
  have hb4 := B0.trans (hb3.mono B0.size)
  replace bC := bC.call hb3
  clear j5 l5 kA kB
  have j5 := bC.cell
  have l5 := bC.frozen
  go_wp2
  exact bodyPost_ret (v := .tuple #[.agg #[.int .i64 0, .string ⟨#[]⟩], .bool false]) (by simp [results, Tryz.results32, go_sem, j5]) rfl ⟨by rw [HV.out]; rfl, (hb4.setCell (by simp <;> omega) _).setCell (by simp <;> omega) _⟩
set_option maxHeartbeats 4000000 in
set_option maxRecDepth 20000 in
theorem name20b_i (m : Nat) (k k' : Int) (n n' : ByteArray) (l l' : List ByteArray) (kids kids' : List Ty) (t : ByteArray) (cs cs' : List Value) (w : World) (hcs : D.Ats w anyB (Ty.ds (.mk k n l kids)) cs) (hcs' : D.Ats w anyB (Ty.ds (.mk k' n' l' kids')) cs') (e : k = 20) (e2 : k' = 20) (h1 : (n.toList == n'.toList) = false) :
    Calls Tryz.prog 32 #[.agg cs.toArray, .agg cs'.toArray, .string t] w fun e w' => e = .returned (retR (whyN (m + 1) (.mk k n l kids) (.mk k' n' l' kids') t)) ∧ Below w.heap.size w w' := by
  subst e e2
  have HV := Lib.hid (show whyN (m + 1) (.mk 20 n l kids) (.mk 20 n' l' kids') t = some (6, t) by rw [why_kind (by decide), body20 (by omega)]; exact if_neg (by rw [h1]; decide))
  have gn : (n.toList != n'.toList) = true := by simp only [bne]; rw [h1]; rfl
  have HN1 := Lib.hid (fun w => numRange_i0 20 w)
  have HN2 := Lib.hid (fun w => numRange_i0 20 w)
  unfold RetRange at HN1 HN2
  obtain ⟨A, c, A2, c2, rfl, -, -, -, -⟩ := Ty.open_ hcs
  obtain ⟨A', c', A2', c2', rfl, -, -, -, -⟩ := Ty.open_ hcs'
  obtain ⟨w0, hw0, B0, bA, bB, bC⟩ := blocks3 w 30 30 34 [.int .i64 20, .string n, .slice A l.length c, .slice A2 kids.length c2] [.int .i64 20, .string n', .slice A' l'.length c', .slice A2' kids'.length c2'] [.int .i64 0, .string ⟨#[]⟩]
  clear hcs hcs'
  have kA := bA.cell
  have kB := bB.cell
  have j5 := bC.cell
  have l5 := bC.frozen
  change Calls Tryz.prog 32 #[.agg #[.int .i64 20, .string n, .slice A l.length c, .slice A2 kids.length c2], .agg #[.int .i64 20, .string n', .slice A' l'.length c', .slice A2' kids'.length c2'], .string t] w _
  go_enter Tryz.func32, Tryz.ntmps32
  go_upto_region 1 with fail
  rw [← hw0]
  clear hw0
  go_wp2_with (first | (go_at_call 60; (first | (with_reducible refine (HN1.out _).mono ?_) | (with_reducible refine (HN2.out _).mono ?_)); rintro e w9 ⟨rfl, rfl⟩))
  refine (reason_i 6 _ _).mono ?_
  rintro e w3 ⟨rfl, hb3⟩
  have hb4 := B0.trans (hb3.mono B0.size)
  replace bC := bC.call hb3
  clear j5 l5 kA kB
  have j5 := bC.cell
  have l5 := bC.frozen
  go_wp2
  exact bodyPost_ret (v := .tuple #[.agg #[.int .i64 6, .string t], .bool true]) (by simp [results, Tryz.results32, go_sem, j5]) rfl ⟨by rw [HV.out]; rfl, (hb4.setCell (by simp <;> omega) _).setCell (by simp <;> omega) _⟩
set_option maxHeartbeats 4000000 in
set_option maxRecDepth 20000 in
theorem name21a_i (m : Nat) (k k' : Int) (n n' : ByteArray) (l l' : List ByteArray) (kids kids' : List Ty) (t : ByteArray) (cs cs' : List Value) (w : World) (hcs : D.Ats w anyB (Ty.ds (.mk k n l kids)) cs) (hcs' : D.Ats w anyB (Ty.ds (.mk k' n' l' kids')) cs') (e : k = 21) (e2 : k' = 21) (h1 : (n.toList == n'.toList) = true) :
    Calls Tryz.prog 32 #[.agg cs.toArray, .agg cs'.toArray, .string t] w fun e w' => e = .returned (retR (whyN (m + 1) (.mk k n l kids) (.mk k' n' l' kids') t)) ∧ Below w.heap.size w w' := by
  subst e e2
  have HV := Lib.hid (show whyN (m + 1) (.mk 21 n l kids) (.mk 21 n' l' kids') t = none by rw [why_kind (by decide), body20 (by omega)]; exact if_pos h1)
  have gn : (n.toList != n'.toList) = false := by simp only [bne]; rw [h1]; rfl
  have HN1 := Lib.hid (fun w => numRange_i0 21 w)
  have HN2 := Lib.hid (fun w => numRange_i0 21 w)
  unfold RetRange at HN1 HN2
  obtain ⟨A, c, A2, c2, rfl, -, -, -, -⟩ := Ty.open_ hcs
  obtain ⟨A', c', A2', c2', rfl, -, -, -, -⟩ := Ty.open_ hcs'
  obtain ⟨w0, hw0, B0, bA, bB, bC⟩ := blocks3 w 30 30 34 [.int .i64 21, .string n, .slice A l.length c, .slice A2 kids.length c2] [.int .i64 21, .string n', .slice A' l'.length c', .slice A2' kids'.length c2'] [.int .i64 0, .string ⟨#[]⟩]
  clear hcs hcs'
  have kA := bA.cell
  have kB := bB.cell
  have j5 := bC.cell
  have l5 := bC.frozen
  change Calls Tryz.prog 32 #[.agg #[.int .i64 21, .string n, .slice A l.length c, .slice A2 kids.length c2], .agg #[.int .i64 21, .string n', .slice A' l'.length c', .slice A2' kids'.length c2'], .string t] w _
  go_enter Tryz.func32, Tryz.ntmps32
  go_upto_region 1 with fail
  rw [← hw0]
  clear hw0
  go_wp2_with (first | (go_at_call 60; (first | (with_reducible refine (HN1.out _).mono ?_) | (with_reducible refine (HN2.out _).mono ?_)); rintro e w9 ⟨rfl, rfl⟩))
  refine (none_i _).mono ?_
  rintro e w3 ⟨rfl, hb3⟩
  have hb4 := B0.trans (hb3.mono B0.size)
  replace bC := bC.call hb3
  clear j5 l5 kA kB
  have j5 := bC.cell
  have l5 := bC.frozen
  go_wp2
  exact bodyPost_ret (v := .tuple #[.agg #[.int .i64 0, .string ⟨#[]⟩], .bool false]) (by simp [results, Tryz.results32, go_sem, j5]) rfl ⟨by rw [HV.out]; rfl, (hb4.setCell (by simp <;> omega) _).setCell (by simp <;> omega) _⟩
set_option maxHeartbeats 4000000 in
set_option maxRecDepth 20000 in
theorem name21b_i (m : Nat) (k k' : Int) (n n' : ByteArray) (l l' : List ByteArray) (kids kids' : List Ty) (t : ByteArray) (cs cs' : List Value) (w : World) (hcs : D.Ats w anyB (Ty.ds (.mk k n l kids)) cs) (hcs' : D.Ats w anyB (Ty.ds (.mk k' n' l' kids')) cs') (e : k = 21) (e2 : k' = 21) (h1 : (n.toList == n'.toList) = false) :
    Calls Tryz.prog 32 #[.agg cs.toArray, .agg cs'.toArray, .string t] w fun e w' => e = .returned (retR (whyN (m + 1) (.mk k n l kids) (.mk k' n' l' kids') t)) ∧ Below w.heap.size w w' := by
  subst e e2
  have HV := Lib.hid (show whyN (m + 1) (.mk 21 n l kids) (.mk 21 n' l' kids') t = some (6, t) by rw [why_kind (by decide), body20 (by omega)]; exact if_neg (by rw [h1]; decide))
  have gn : (n.toList != n'.toList) = true := by simp only [bne]; rw [h1]; rfl
  have HN1 := Lib.hid (fun w => numRange_i0 21 w)
  have HN2 := Lib.hid (fun w => numRange_i0 21 w)
  unfold RetRange at HN1 HN2
  obtain ⟨A, c, A2, c2, rfl, -, -, -, -⟩ := Ty.open_ hcs
  obtain ⟨A', c', A2', c2', rfl, -, -, -, -⟩ := Ty.open_ hcs'
  obtain ⟨w0, hw0, B0, bA, bB, bC⟩ := blocks3 w 30 30 34 [.int .i64 21, .string n, .slice A l.length c, .slice A2 kids.length c2] [.int .i64 21, .string n', .slice A' l'.length c', .slice A2' kids'.length c2'] [.int .i64 0, .string ⟨#[]⟩]
  clear hcs hcs'
  have kA := bA.cell
  have kB := bB.cell
  have j5 := bC.cell
  have l5 := bC.frozen
  change Calls Tryz.prog 32 #[.agg #[.int .i64 21, .string n, .slice A l.length c, .slice A2 kids.length c2], .agg #[.int .i64 21, .string n', .slice A' l'.length c', .slice A2' kids'.length c2'], .string t] w _
  go_enter Tryz.func32, Tryz.ntmps32
  go_upto_region 1 with fail
  rw [← hw0]
  clear hw0
  go_wp2_with (first | (go_at_call 60; (first | (with_reducible refine (HN1.out _).mono ?_) | (with_reducible refine (HN2.out _).mono ?_)); rintro e w9 ⟨rfl, rfl⟩))
  refine (reason_i 6 _ _).mono ?_
  rintro e w3 ⟨rfl, hb3⟩
  have hb4 := B0.trans (hb3.mono B0.size)
  replace bC := bC.call hb3
  clear j5 l5 kA kB
  have j5 := bC.cell
  have l5 := bC.frozen
  go_wp2
  exact bodyPost_ret (v := .tuple #[.agg #[.int .i64 6, .string t], .bool true]) (by simp [results, Tryz.results32, go_sem, j5]) rfl ⟨by rw [HV.out]; rfl, (hb4.setCell (by simp <;> omega) _).setCell (by simp <;> omega) _⟩
end Go.Proofs.YtoioljkhinodaaaGreatDoor
namespace Go.Proofs.YtoioljkhinodaaaGreatDoor
open Go.RowKit Go.Shelf

set_option maxHeartbeats 4000000 in
set_option maxRecDepth 20000 in
theorem kid12_i (m : Nat) (C : World → Prop) (hC : ∀ w w', C w → Below w.heap.size w w' → C w') (ih : WhyAt 32 C m) (k : Int) (n n' : ByteArray) (l l' : List ByteArray) (kids kids' : List Ty) (t : ByteArray) (cs cs' : List Value) (w : World) (hcw : C w) (hd : Ty.deep (.mk k n l kids) ≤ m + 1) (hx : Ty.all shape (.mk k n l kids) = true) (hy : Ty.all shape (.mk k n' l' kids') = true) (ht : t.size + 20 * (m + 1) ≤ 1000000) (hcs : D.Ats w anyB (Ty.ds (.mk k n l kids)) cs) (hcs' : D.Ats w anyB (Ty.ds (.mk k n' l' kids')) cs') (hk : k = 12) :
    Calls Tryz.prog 32 #[.agg cs.toArray, .agg cs'.toArray, .string t] w fun e w' => e = .returned (retR (whyN (m + 1) (.mk k n l kids) (.mk k n' l' kids') t)) ∧ Below w.heap.size w w' := by
  subst hk
  obtain ⟨fx, kx⟩ := Fit.of hx
  obtain ⟨fy, ky⟩ := Fit.of hy
  obtain ⟨x, rfl⟩ := List.length_eq_one_iff.1 (fx.one (by omega))
  obtain ⟨y, rfl⟩ := List.length_eq_one_iff.1 (fy.one (by omega))
  obtain ⟨A, c, A2, c2, rfl, -, -, -, hk⟩ := Ty.open_ hcs
  obtain ⟨A', c', A2', c2', rfl, -, -, -, hk'⟩ := Ty.open_ hcs'
  obtain ⟨b, off, u0, u1, u2, u3, rfl, -, hbl, hat, e0, e1, e2, e3⟩ := rows_at4 Ty.len hk (show [x][0]? = some x from rfl)
  obtain ⟨b', off', v0, v1, v2, v3, rfl, -, hbl', hat', d0, d1, d2, d3⟩ := rows_at4 Ty.len hk' (show [y][0]? = some y from rfl)
  have HV := Lib.hid (show whyN (m + 1) (.mk 12 n l [x]) (.mk 12 n' l' [y]) t = whyN m x y (t ++ ⟨#[91, 93]⟩) by rw [why_kind (by decide), body12]; rfl)
  have HX := Lib.hid (fun w' hc h h' => ih x y (t ++ ⟨#[91, 93]⟩) [u0, u1, u2, u3] [v0, v1, v2, v3] w' (deep_kid hd (.head _)) (kx x (.head _)) (ky y (.head _)) (by rw [ByteArray.size_append]; show t.size + 2 + 20 * m ≤ 1000000; omega) hc h h')
  simp only [retR_eq] at HX
  generalize hR : whyN m x y (t ++ ⟨#[91, 93]⟩) = R at HX HV
  clear hR
  obtain ⟨w0, hw0, B0, bA, bB, bC⟩ := blocks3 w 30 30 34 [.int .i64 12, .string n, .slice A l.length c, .slice (some ⟨b, off, none⟩) 1 c2] [.int .i64 12, .string n', .slice A' l'.length c', .slice (some ⟨b', off', none⟩) 1 c2'] [.int .i64 0, .string ⟨#[]⟩]
  have H0 := Lib.hid (And.intro (hat.below B0) (And.intro (hat'.below B0) (And.intro hC (hC _ _ hcw B0))))
  replace e0 := (B0.cell (p := ⟨b, off + 0 * 4, none⟩) hbl).trans e0
  replace e1 := (B0.cell (p := ⟨b, off + 0 * 4 + 1, none⟩) hbl).trans e1
  replace e2 := (B0.cell (p := ⟨b, off + 0 * 4 + 2, none⟩) hbl).trans e2
  replace e3 := (B0.cell (p := ⟨b, off + 0 * 4 + 3, none⟩) hbl).trans e3
  replace d0 := (B0.cell (p := ⟨b', off' + 0 * 4, none⟩) hbl').trans d0
  replace d1 := (B0.cell (p := ⟨b', off' + 0 * 4 + 1, none⟩) hbl').trans d1
  replace d2 := (B0.cell (p := ⟨b', off' + 0 * 4 + 2, none⟩) hbl').trans d2
  replace d3 := (B0.cell (p := ⟨b', off' + 0 * 4 + 3, none⟩) hbl').trans d3
  simp only [Nat.zero_mul, Nat.add_zero] at e0 e1 e2 e3 d0 d1 d2 d3
  replace hbl : b < w.heap.size + 2 := by omega
  replace hbl' : b' < w.heap.size + 2 := by omega
  have zA : w.heap.size < w.heap.size + 2 := by omega
  have zB : w.heap.size + 1 < w.heap.size + 2 := by omega
  have szw : w.heap.size + 2 ≤ w0.heap.size := by have := bC.lt; omega
  have k1 := bA.cell
  have k2 := bB.cell
  have hadd : ¬ 9223372036854775807 < t.size + 2 := by omega
  clear hcs hcs' hk hk' hx hy fx kx fy ky hat hat' ih hd ht hC hcw
  change Calls Tryz.prog 32 #[.agg #[.int .i64 12, .string n, .slice A l.length c, .slice (some ⟨b, off, none⟩) 1 c2], .agg #[.int .i64 12, .string n', .slice A' l'.length c', .slice (some ⟨b', off', none⟩) 1 c2'], .string t] w _
  go_enter Tryz.func32, Tryz.ntmps32
  go_upto_region 1 with fail
  rw [← hw0]
  clear hw0
  go_upto_region 11 with (go_at_call 60; refine (numRange_i0 _ _).mono ?_; rintro e w9 ⟨rfl, rfl⟩)
  have f1 : w0.cell? ⟨w.heap.size, 3, none⟩ = some (.slice (some ⟨b, off, none⟩) 1 c2) := k1 3
  have f2 : w0.cell? ⟨w.heap.size + 1, 3, none⟩ = some (.slice (some ⟨b', off', none⟩) 1 c2') := k2 3
  have K0 : Below (w.heap.size + 2) w0 w0.drew := (Below.refl _ w0).drew
  have KEEP : ∀ W, Below (w.heap.size + 2) w0 W → W.cell? ⟨w.heap.size, 3, none⟩ = some (.slice (some ⟨b, off, none⟩) 1 c2) ∧ W.cell? ⟨w.heap.size + 1, 3, none⟩ = some (.slice (some ⟨b', off', none⟩) 1 c2') ∧ W.cell? ⟨b, off, none⟩ = some (u0) ∧ W.cell? ⟨b, off + 1, none⟩ = some (u1) ∧ W.cell? ⟨b, off + 2, none⟩ = some (u2) ∧ W.cell? ⟨b, off + 3, none⟩ = some (u3) ∧ W.cell? ⟨b', off', none⟩ = some (v0) ∧ W.cell? ⟨b', off' + 1, none⟩ = some (v1) ∧ W.cell? ⟨b', off' + 2, none⟩ = some (v2) ∧ W.cell? ⟨b', off' + 3, none⟩ = some (v3) := fun W G => ⟨(G.cell (p := ⟨w.heap.size, 3, none⟩) zA).trans f1, (G.cell (p := ⟨w.heap.size + 1, 3, none⟩) zB).trans f2, (G.cell (p := ⟨b, off, none⟩) hbl).trans e0, (G.cell (p := ⟨b, off + 1, none⟩) hbl).trans e1, (G.cell (p := ⟨b, off + 2, none⟩) hbl).trans e2, (G.cell (p := ⟨b, off + 3, none⟩) hbl).trans e3, (G.cell (p := ⟨b', off', none⟩) hbl').trans d0, (G.cell (p := ⟨b', off' + 1, none⟩) hbl').trans d1, (G.cell (p := ⟨b', off' + 2, none⟩) hbl').trans d2, (G.cell (p := ⟨b', off' + 3, none⟩) hbl').trans d3⟩
  have HCD := H0.out.2.2.1 _ _ H0.out.2.2.2 ((Below.refl _ w0).drew)
  go_region_held3 (fun w' => w'.cell? ⟨w.heap.size, 3, none⟩ = some (.slice (some ⟨b, off, none⟩) 1 c2) ∧ w'.cell? ⟨w.heap.size + 1, 3, none⟩ = some (.slice (some ⟨b', off', none⟩) 1 c2') ∧ w'.cell? ⟨b, off, none⟩ = some (u0) ∧ w'.cell? ⟨b, off + 1, none⟩ = some (u1) ∧ w'.cell? ⟨b, off + 2, none⟩ = some (u2) ∧ w'.cell? ⟨b, off + 3, none⟩ = some (u3) ∧ w'.cell? ⟨b', off', none⟩ = some (v0) ∧ w'.cell? ⟨b', off' + 1, none⟩ = some (v1) ∧ w'.cell? ⟨b', off' + 2, none⟩ = some (v2) ∧ w'.cell? ⟨b', off' + 3, none⟩ = some (v3))
    (first | exact KEEP _ K0 | exact KEEP _ B5 | exact KEEP _ ((B5.setCell (by simp) _).setCell (by simp) _) | (trace_state; fail))
    (first | (go_at_call 32; ((with_reducible refine (HX.out _ HCD H0.out.1.drew H0.out.2.1.drew).mono ?_); rintro e w5 ⟨rfl, hb5⟩; have bC5 := Box.call (w := w0.drew) bC hb5; have j5 := bC5.cell; have l5 := bC5.frozen; have B5 := K0.trans (hb5.mono szw))))
  all_goals
    have fin := Lib.hid (show Below w.heap.size w w5 from B0.trans (B5.mono (Nat.le_add_right _ _)))
    go_wp2_with fail
    exact bodyPost_ret (v := .tuple #[.agg #[.int .i64 (rsK R), .string (rsT R)], .bool (rsO R)]) (by simp [results, Tryz.results32, go_sem, j5]) rfl ⟨by rw [HV.out, retR_eq], (fin.out.setCell (by simp <;> omega) _).setCell (by simp <;> omega) _⟩
set_option maxHeartbeats 4000000 in
set_option maxRecDepth 20000 in
theorem kid13_i (m : Nat) (C : World → Prop) (hC : ∀ w w', C w → Below w.heap.size w w' → C w') (ih : WhyAt 32 C m) (k : Int) (n n' : ByteArray) (l l' : List ByteArray) (kids kids' : List Ty) (t : ByteArray) (cs cs' : List Value) (w : World) (hcw : C w) (hd : Ty.deep (.mk k n l kids) ≤ m + 1) (hx : Ty.all shape (.mk k n l kids) = true) (hy : Ty.all shape (.mk k n' l' kids') = true) (ht : t.size + 20 * (m + 1) ≤ 1000000) (hcs : D.Ats w anyB (Ty.ds (.mk k n l kids)) cs) (hcs' : D.Ats w anyB (Ty.ds (.mk k n' l' kids')) cs') (hk : k = 13) :
    Calls Tryz.prog 32 #[.agg cs.toArray, .agg cs'.toArray, .string t] w fun e w' => e = .returned (retR (whyN (m + 1) (.mk k n l kids) (.mk k n' l' kids') t)) ∧ Below w.heap.size w w' := by
  subst hk
  obtain ⟨fx, kx⟩ := Fit.of hx
  obtain ⟨fy, ky⟩ := Fit.of hy
  obtain ⟨x, rfl⟩ := List.length_eq_one_iff.1 (fx.one (by omega))
  obtain ⟨y, rfl⟩ := List.length_eq_one_iff.1 (fy.one (by omega))
  obtain ⟨A, c, A2, c2, rfl, -, -, -, hk⟩ := Ty.open_ hcs
  obtain ⟨A', c', A2', c2', rfl, -, -, -, hk'⟩ := Ty.open_ hcs'
  obtain ⟨b, off, u0, u1, u2, u3, rfl, -, hbl, hat, e0, e1, e2, e3⟩ := rows_at4 Ty.len hk (show [x][0]? = some x from rfl)
  obtain ⟨b', off', v0, v1, v2, v3, rfl, -, hbl', hat', d0, d1, d2, d3⟩ := rows_at4 Ty.len hk' (show [y][0]? = some y from rfl)
  have HV := Lib.hid (show whyN (m + 1) (.mk 13 n l [x]) (.mk 13 n' l' [y]) t = whyN m x y (t ++ ⟨#[63]⟩) by rw [why_kind (by decide), body13]; rfl)
  have HX := Lib.hid (fun w' hc h h' => ih x y (t ++ ⟨#[63]⟩) [u0, u1, u2, u3] [v0, v1, v2, v3] w' (deep_kid hd (.head _)) (kx x (.head _)) (ky y (.head _)) (by rw [ByteArray.size_append]; show t.size + 1 + 20 * m ≤ 1000000; omega) hc h h')
  simp only [retR_eq] at HX
  generalize hR : whyN m x y (t ++ ⟨#[63]⟩) = R at HX HV
  clear hR
  obtain ⟨w0, hw0, B0, bA, bB, bC⟩ := blocks3 w 30 30 34 [.int .i64 13, .string n, .slice A l.length c, .slice (some ⟨b, off, none⟩) 1 c2] [.int .i64 13, .string n', .slice A' l'.length c', .slice (some ⟨b', off', none⟩) 1 c2'] [.int .i64 0, .string ⟨#[]⟩]
  have H0 := Lib.hid (And.intro (hat.below B0) (And.intro (hat'.below B0) (And.intro hC (hC _ _ hcw B0))))
  replace e0 := (B0.cell (p := ⟨b, off + 0 * 4, none⟩) hbl).trans e0
  replace e1 := (B0.cell (p := ⟨b, off + 0 * 4 + 1, none⟩) hbl).trans e1
  replace e2 := (B0.cell (p := ⟨b, off + 0 * 4 + 2, none⟩) hbl).trans e2
  replace e3 := (B0.cell (p := ⟨b, off + 0 * 4 + 3, none⟩) hbl).trans e3
  replace d0 := (B0.cell (p := ⟨b', off' + 0 * 4, none⟩) hbl').trans d0
  replace d1 := (B0.cell (p := ⟨b', off' + 0 * 4 + 1, none⟩) hbl').trans d1
  replace d2 := (B0.cell (p := ⟨b', off' + 0 * 4 + 2, none⟩) hbl').trans d2
  replace d3 := (B0.cell (p := ⟨b', off' + 0 * 4 + 3, none⟩) hbl').trans d3
  simp only [Nat.zero_mul, Nat.add_zero] at e0 e1 e2 e3 d0 d1 d2 d3
  replace hbl : b < w.heap.size + 2 := by omega
  replace hbl' : b' < w.heap.size + 2 := by omega
  have zA : w.heap.size < w.heap.size + 2 := by omega
  have zB : w.heap.size + 1 < w.heap.size + 2 := by omega
  have szw : w.heap.size + 2 ≤ w0.heap.size := by have := bC.lt; omega
  have k1 := bA.cell
  have k2 := bB.cell
  have hadd : ¬ 9223372036854775807 < t.size + 1 := by omega
  clear hcs hcs' hk hk' hx hy fx kx fy ky hat hat' ih hd ht hC hcw
  change Calls Tryz.prog 32 #[.agg #[.int .i64 13, .string n, .slice A l.length c, .slice (some ⟨b, off, none⟩) 1 c2], .agg #[.int .i64 13, .string n', .slice A' l'.length c', .slice (some ⟨b', off', none⟩) 1 c2'], .string t] w _
  go_enter Tryz.func32, Tryz.ntmps32
  go_upto_region 1 with fail
  rw [← hw0]
  clear hw0
  go_upto_region 13 with (go_at_call 60; refine (numRange_i0 _ _).mono ?_; rintro e w9 ⟨rfl, rfl⟩)
  have f1 : w0.cell? ⟨w.heap.size, 3, none⟩ = some (.slice (some ⟨b, off, none⟩) 1 c2) := k1 3
  have f2 : w0.cell? ⟨w.heap.size + 1, 3, none⟩ = some (.slice (some ⟨b', off', none⟩) 1 c2') := k2 3
  have K0 : Below (w.heap.size + 2) w0 w0.drew := (Below.refl _ w0).drew
  have KEEP : ∀ W, Below (w.heap.size + 2) w0 W → W.cell? ⟨w.heap.size, 3, none⟩ = some (.slice (some ⟨b, off, none⟩) 1 c2) ∧ W.cell? ⟨w.heap.size + 1, 3, none⟩ = some (.slice (some ⟨b', off', none⟩) 1 c2') ∧ W.cell? ⟨b, off, none⟩ = some (u0) ∧ W.cell? ⟨b, off + 1, none⟩ = some (u1) ∧ W.cell? ⟨b, off + 2, none⟩ = some (u2) ∧ W.cell? ⟨b, off + 3, none⟩ = some (u3) ∧ W.cell? ⟨b', off', none⟩ = some (v0) ∧ W.cell? ⟨b', off' + 1, none⟩ = some (v1) ∧ W.cell? ⟨b', off' + 2, none⟩ = some (v2) ∧ W.cell? ⟨b', off' + 3, none⟩ = some (v3) := fun W G => ⟨(G.cell (p := ⟨w.heap.size, 3, none⟩) zA).trans f1, (G.cell (p := ⟨w.heap.size + 1, 3, none⟩) zB).trans f2, (G.cell (p := ⟨b, off, none⟩) hbl).trans e0, (G.cell (p := ⟨b, off + 1, none⟩) hbl).trans e1, (G.cell (p := ⟨b, off + 2, none⟩) hbl).trans e2, (G.cell (p := ⟨b, off + 3, none⟩) hbl).trans e3, (G.cell (p := ⟨b', off', none⟩) hbl').trans d0, (G.cell (p := ⟨b', off' + 1, none⟩) hbl').trans d1, (G.cell (p := ⟨b', off' + 2, none⟩) hbl').trans d2, (G.cell (p := ⟨b', off' + 3, none⟩) hbl').trans d3⟩
  have HCD := H0.out.2.2.1 _ _ H0.out.2.2.2 ((Below.refl _ w0).drew)
  go_region_held3 (fun w' => w'.cell? ⟨w.heap.size, 3, none⟩ = some (.slice (some ⟨b, off, none⟩) 1 c2) ∧ w'.cell? ⟨w.heap.size + 1, 3, none⟩ = some (.slice (some ⟨b', off', none⟩) 1 c2') ∧ w'.cell? ⟨b, off, none⟩ = some (u0) ∧ w'.cell? ⟨b, off + 1, none⟩ = some (u1) ∧ w'.cell? ⟨b, off + 2, none⟩ = some (u2) ∧ w'.cell? ⟨b, off + 3, none⟩ = some (u3) ∧ w'.cell? ⟨b', off', none⟩ = some (v0) ∧ w'.cell? ⟨b', off' + 1, none⟩ = some (v1) ∧ w'.cell? ⟨b', off' + 2, none⟩ = some (v2) ∧ w'.cell? ⟨b', off' + 3, none⟩ = some (v3))
    (first | exact KEEP _ K0 | exact KEEP _ B5 | exact KEEP _ ((B5.setCell (by simp) _).setCell (by simp) _) | (trace_state; fail))
    (first | (go_at_call 32; ((with_reducible refine (HX.out _ HCD H0.out.1.drew H0.out.2.1.drew).mono ?_); rintro e w5 ⟨rfl, hb5⟩; have bC5 := Box.call (w := w0.drew) bC hb5; have j5 := bC5.cell; have l5 := bC5.frozen; have B5 := K0.trans (hb5.mono szw))))
  all_goals
    have fin := Lib.hid (show Below w.heap.size w w5 from B0.trans (B5.mono (Nat.le_add_right _ _)))
    go_wp2_with fail
    exact bodyPost_ret (v := .tuple #[.agg #[.int .i64 (rsK R), .string (rsT R)], .bool (rsO R)]) (by simp [results, Tryz.results32, go_sem, j5]) rfl ⟨by rw [HV.out, retR_eq], (fin.out.setCell (by simp <;> omega) _).setCell (by simp <;> omega) _⟩
end Go.Proofs.YtoioljkhinodaaaGreatDoor
namespace Go.Proofs.YtoioljkhinodaaaGreatDoor
open Go.RowKit Go.Shelf

set_option maxHeartbeats 4000000 in
set_option maxRecDepth 20000 in
theorem str22_i (m : Nat) (C : World → Prop) (_hC : ∀ w w', C w → Below w.heap.size w w' → C w') (_ih : WhyAt 32 C m) (k : Int) (n n' : ByteArray) (l l' : List ByteArray) (kids kids' : List Ty) (t : ByteArray) (cs cs' : List Value) (w : World) (_hcw : C w) (hd : Ty.deep (.mk k n l kids) ≤ m + 1) (hx : Ty.all shape (.mk k n l kids) = true) (hy : Ty.all shape (.mk k n' l' kids') = true) (_ht : t.size + 20 * (m + 1) ≤ 1000000) (hcs : D.Ats w anyB (Ty.ds (.mk k n l kids)) cs) (hcs' : D.Ats w anyB (Ty.ds (.mk k n' l' kids')) cs') (hk : k = 22) :
    Calls Tryz.prog 32 #[.agg cs.toArray, .agg cs'.toArray, .string t] w fun e w' => e = .returned (retR (whyN (m + 1) (.mk k n l kids) (.mk k n' l' kids') t)) ∧ Below w.heap.size w w' := by
  subst hk
  obtain ⟨fx, kx⟩ := Fit.of hx
  obtain ⟨fy, ky⟩ := Fit.of hy
  obtain ⟨x, rfl⟩ := List.length_eq_one_iff.1 (fx.one (by omega))
  obtain ⟨y, rfl⟩ := List.length_eq_one_iff.1 (fy.one (by omega))
  obtain ⟨A, c, A2, c2, rfl, -, -, -, hk⟩ := Ty.open_ hcs
  obtain ⟨A', c', A2', c2', rfl, -, -, -, hk'⟩ := Ty.open_ hcs'
  obtain ⟨b, off, u0, u1, u2, u3, rfl, -, hbl, hat, e0, e1, e2, e3⟩ := rows_at4 Ty.len hk (show [x][0]? = some x from rfl)
  obtain ⟨b', off', v0, v1, v2, v3, rfl, -, hbl', hat', d0, d1, d2, d3⟩ := rows_at4 Ty.len hk' (show [y][0]? = some y from rfl)
  have HV := Lib.hid (show whyN (m + 1) (.mk 22 n l [x]) (.mk 22 n' l' [y]) t = sameR x y t by rw [why_kind (by decide), body22 (by omega)]; rfl)
  have HX := Lib.hid (fun w' h h' => sameType_i x y [u0, u1, u2, u3] [v0, v1, v2, v3] w' h h')
  unfold sameR at HV
  obtain ⟨w0, hw0, B0, bA, bB, bC⟩ := blocks3 w 30 30 34 [.int .i64 22, .string n, .slice A l.length c, .slice (some ⟨b, off, none⟩) 1 c2] [.int .i64 22, .string n', .slice A' l'.length c', .slice (some ⟨b', off', none⟩) 1 c2'] [.int .i64 0, .string ⟨#[]⟩]
  have H0 := Lib.hid (And.intro (hat.below B0) (hat'.below B0))
  replace e0 := (B0.cell (p := ⟨b, off + 0 * 4, none⟩) hbl).trans e0
  replace e1 := (B0.cell (p := ⟨b, off + 0 * 4 + 1, none⟩) hbl).trans e1
  replace e2 := (B0.cell (p := ⟨b, off + 0 * 4 + 2, none⟩) hbl).trans e2
  replace e3 := (B0.cell (p := ⟨b, off + 0 * 4 + 3, none⟩) hbl).trans e3
  replace d0 := (B0.cell (p := ⟨b', off' + 0 * 4, none⟩) hbl').trans d0
  replace d1 := (B0.cell (p := ⟨b', off' + 0 * 4 + 1, none⟩) hbl').trans d1
  replace d2 := (B0.cell (p := ⟨b', off' + 0 * 4 + 2, none⟩) hbl').trans d2
  replace d3 := (B0.cell (p := ⟨b', off' + 0 * 4 + 3, none⟩) hbl').trans d3
  simp only [Nat.zero_mul, Nat.add_zero] at e0 e1 e2 e3 d0 d1 d2 d3
  replace hbl : b < w0.heap.size := Nat.lt_of_lt_of_le hbl B0.size
  replace hbl' : b' < w0.heap.size := Nat.lt_of_lt_of_le hbl' B0.size
  have zA := bA.lt
  have zB := bB.lt
  have k1 := bA.cell
  have k2 := bB.cell
  clear hcs hcs' hk hk' hx hy fx kx fy ky hat hat' hd
  have f1 : w0.cell? ⟨w.heap.size, 3, none⟩ = some (.slice (some ⟨b, off, none⟩) 1 c2) := k1 3
  have f2 : w0.cell? ⟨w.heap.size + 1, 3, none⟩ = some (.slice (some ⟨b', off', none⟩) 1 c2') := k2 3
  have K0 : Below w0.heap.size w0 w0.drew := (Below.refl _ w0).drew
  have KEEP : ∀ W, Below w0.heap.size w0 W → W.cell? ⟨w.heap.size, 3, none⟩ = some (.slice (some ⟨b, off, none⟩) 1 c2) ∧ W.cell? ⟨w.heap.size + 1, 3, none⟩ = some (.slice (some ⟨b', off', none⟩) 1 c2') ∧ W.cell? ⟨b, off, none⟩ = some (u0) ∧ W.cell? ⟨b, off + 1, none⟩ = some (u1) ∧ W.cell? ⟨b, off + 2, none⟩ = some (u2) ∧ W.cell? ⟨b, off + 3, none⟩ = some (u3) ∧ W.cell? ⟨b', off', none⟩ = some (v0) ∧ W.cell? ⟨b', off' + 1, none⟩ = some (v1) ∧ W.cell? ⟨b', off' + 2, none⟩ = some (v2) ∧ W.cell? ⟨b', off' + 3, none⟩ = some (v3) := fun W G => ⟨(G.cell (p := ⟨w.heap.size, 3, none⟩) zA).trans f1, (G.cell (p := ⟨w.heap.size + 1, 3, none⟩) zB).trans f2, (G.cell (p := ⟨b, off, none⟩) hbl).trans e0, (G.cell (p := ⟨b, off + 1, none⟩) hbl).trans e1, (G.cell (p := ⟨b, off + 2, none⟩) hbl).trans e2, (G.cell (p := ⟨b, off + 3, none⟩) hbl).trans e3, (G.cell (p := ⟨b', off', none⟩) hbl').trans d0, (G.cell (p := ⟨b', off' + 1, none⟩) hbl').trans d1, (G.cell (p := ⟨b', off' + 2, none⟩) hbl').trans d2, (G.cell (p := ⟨b', off' + 3, none⟩) hbl').trans d3⟩
  change Calls Tryz.prog 32 #[.agg #[.int .i64 22, .string n, .slice A l.length c, .slice (some ⟨b, off, none⟩) 1 c2], .agg #[.int .i64 22, .string n', .slice A' l'.length c', .slice (some ⟨b', off', none⟩) 1 c2'], .string t] w _
  cases hz : tyEq 100 x y
  · rw [hz] at HX
    rw [if_neg (by rw [hz]; decide)] at HV
    clear hz
    go_enter Tryz.func32, Tryz.ntmps32
    go_upto_region 1 with fail
    rw [← hw0]
    clear hw0
    go_upto_region 33 with (go_at_call 60; refine (numRange_i0 _ _).mono ?_; rintro e w9 ⟨rfl, rfl⟩)
    clear k1 k2
    go_region_held3 (fun w' => w'.cell? ⟨w.heap.size, 3, none⟩ = some (.slice (some ⟨b, off, none⟩) 1 c2) ∧ w'.cell? ⟨w.heap.size + 1, 3, none⟩ = some (.slice (some ⟨b', off', none⟩) 1 c2') ∧ w'.cell? ⟨b, off, none⟩ = some (u0) ∧ w'.cell? ⟨b, off + 1, none⟩ = some (u1) ∧ w'.cell? ⟨b, off + 2, none⟩ = some (u2) ∧ w'.cell? ⟨b, off + 3, none⟩ = some (u3) ∧ w'.cell? ⟨b', off', none⟩ = some (v0) ∧ w'.cell? ⟨b', off' + 1, none⟩ = some (v1) ∧ w'.cell? ⟨b', off' + 2, none⟩ = some (v2) ∧ w'.cell? ⟨b', off' + 3, none⟩ = some (v3))
      (first | exact KEEP _ K0 | exact KEEP _ B5 | (trace_state; fail))
      (first | (go_at_call 65; ((with_reducible refine (HX.out _ H0.out.1.drew H0.out.2.drew).mono ?_); rintro e w5 ⟨rfl, hb5⟩; have bC5 := Box.call (w := w0.drew) bC hb5; have j5 := bC5.cell; have l5 := bC5.frozen; have B5 := K0.trans (hb5.mono K0.size))))
    all_goals
      have fin := Lib.hid (show Below w.heap.size w w5 from B0.trans (B5.mono B0.size))
      clear j5 l5
      go_wp2_with fail
      refine (reason_i 3 _ _).mono ?_
      rintro e w7 ⟨rfl, hb7⟩
      have fin7 := fin.out.trans (hb7.mono (fin.out.size))
      have bC7 := bC5.call hb7
      have j5 := bC7.cell
      have l5 := bC7.frozen
      go_wp2
      exact bodyPost_ret (v := .tuple #[.agg #[.int .i64 3, .string t], .bool true]) (by simp [results, Tryz.results32, go_sem, j5]) rfl ⟨by rw [HV.out]; rfl, (fin7.setCell (by simp <;> omega) _).setCell (by simp <;> omega) _⟩
  · rw [hz] at HX
    rw [if_pos hz] at HV
    clear hz
    go_enter Tryz.func32, Tryz.ntmps32
    go_upto_region 1 with fail
    rw [← hw0]
    clear hw0
    go_upto_region 33 with (go_at_call 60; refine (numRange_i0 _ _).mono ?_; rintro e w9 ⟨rfl, rfl⟩)
    clear k1 k2
    go_region_held3 (fun w' => w'.cell? ⟨w.heap.size, 3, none⟩ = some (.slice (some ⟨b, off, none⟩) 1 c2) ∧ w'.cell? ⟨w.heap.size + 1, 3, none⟩ = some (.slice (some ⟨b', off', none⟩) 1 c2') ∧ w'.cell? ⟨b, off, none⟩ = some (u0) ∧ w'.cell? ⟨b, off + 1, none⟩ = some (u1) ∧ w'.cell? ⟨b, off + 2, none⟩ = some (u2) ∧ w'.cell? ⟨b, off + 3, none⟩ = some (u3) ∧ w'.cell? ⟨b', off', none⟩ = some (v0) ∧ w'.cell? ⟨b', off' + 1, none⟩ = some (v1) ∧ w'.cell? ⟨b', off' + 2, none⟩ = some (v2) ∧ w'.cell? ⟨b', off' + 3, none⟩ = some (v3))
      (first | exact KEEP _ K0 | exact KEEP _ B5 | (trace_state; fail))
      (first | (go_at_call 65; ((with_reducible refine (HX.out _ H0.out.1.drew H0.out.2.drew).mono ?_); rintro e w5 ⟨rfl, hb5⟩; have bC5 := Box.call (w := w0.drew) bC hb5; have j5 := bC5.cell; have l5 := bC5.frozen; have B5 := K0.trans (hb5.mono K0.size))))
    all_goals
      have fin := Lib.hid (show Below w.heap.size w w5 from B0.trans (B5.mono B0.size))
      clear j5 l5
      go_wp2_with fail
      refine (none_i _).mono ?_
      rintro e w7 ⟨rfl, hb7⟩
      have fin7 := fin.out.trans (hb7.mono (fin.out.size))
      have bC7 := bC5.call hb7
      have j5 := bC7.cell
      have l5 := bC7.frozen
      go_wp2
      exact bodyPost_ret (v := .tuple #[.agg #[.int .i64 0, .string ⟨#[]⟩], .bool false]) (by simp [results, Tryz.results32, go_sem, j5]) rfl ⟨by rw [HV.out]; rfl, (fin7.setCell (by simp <;> omega) _).setCell (by simp <;> omega) _⟩
set_option maxHeartbeats 4000000 in
set_option maxRecDepth 20000 in
theorem str23_i (m : Nat) (C : World → Prop) (_hC : ∀ w w', C w → Below w.heap.size w w' → C w') (_ih : WhyAt 32 C m) (k : Int) (n n' : ByteArray) (l l' : List ByteArray) (kids kids' : List Ty) (t : ByteArray) (cs cs' : List Value) (w : World) (_hcw : C w) (hd : Ty.deep (.mk k n l kids) ≤ m + 1) (hx : Ty.all shape (.mk k n l kids) = true) (hy : Ty.all shape (.mk k n' l' kids') = true) (_ht : t.size + 20 * (m + 1) ≤ 1000000) (hcs : D.Ats w anyB (Ty.ds (.mk k n l kids)) cs) (hcs' : D.Ats w anyB (Ty.ds (.mk k n' l' kids')) cs') (hk : k = 23) :
    Calls Tryz.prog 32 #[.agg cs.toArray, .agg cs'.toArray, .string t] w fun e w' => e = .returned (retR (whyN (m + 1) (.mk k n l kids) (.mk k n' l' kids') t)) ∧ Below w.heap.size w w' := by
  subst hk
  obtain ⟨fx, kx⟩ := Fit.of hx
  obtain ⟨fy, ky⟩ := Fit.of hy
  obtain ⟨x, rfl⟩ := List.length_eq_one_iff.1 (fx.one (by omega))
  obtain ⟨y, rfl⟩ := List.length_eq_one_iff.1 (fy.one (by omega))
  obtain ⟨A, c, A2, c2, rfl, -, -, -, hk⟩ := Ty.open_ hcs
  obtain ⟨A', c', A2', c2', rfl, -, -, -, hk'⟩ := Ty.open_ hcs'
  obtain ⟨b, off, u0, u1, u2, u3, rfl, -, hbl, hat, e0, e1, e2, e3⟩ := rows_at4 Ty.len hk (show [x][0]? = some x from rfl)
  obtain ⟨b', off', v0, v1, v2, v3, rfl, -, hbl', hat', d0, d1, d2, d3⟩ := rows_at4 Ty.len hk' (show [y][0]? = some y from rfl)
  have HV := Lib.hid (show whyN (m + 1) (.mk 23 n l [x]) (.mk 23 n' l' [y]) t = sameR x y t by rw [why_kind (by decide), body22 (by omega)]; rfl)
  have HX := Lib.hid (fun w' h h' => sameType_i x y [u0, u1, u2, u3] [v0, v1, v2, v3] w' h h')
  unfold sameR at HV
  obtain ⟨w0, hw0, B0, bA, bB, bC⟩ := blocks3 w 30 30 34 [.int .i64 23, .string n, .slice A l.length c, .slice (some ⟨b, off, none⟩) 1 c2] [.int .i64 23, .string n', .slice A' l'.length c', .slice (some ⟨b', off', none⟩) 1 c2'] [.int .i64 0, .string ⟨#[]⟩]
  have H0 := Lib.hid (And.intro (hat.below B0) (hat'.below B0))
  replace e0 := (B0.cell (p := ⟨b, off + 0 * 4, none⟩) hbl).trans e0
  replace e1 := (B0.cell (p := ⟨b, off + 0 * 4 + 1, none⟩) hbl).trans e1
  replace e2 := (B0.cell (p := ⟨b, off + 0 * 4 + 2, none⟩) hbl).trans e2
  replace e3 := (B0.cell (p := ⟨b, off + 0 * 4 + 3, none⟩) hbl).trans e3
  replace d0 := (B0.cell (p := ⟨b', off' + 0 * 4, none⟩) hbl').trans d0
  replace d1 := (B0.cell (p := ⟨b', off' + 0 * 4 + 1, none⟩) hbl').trans d1
  replace d2 := (B0.cell (p := ⟨b', off' + 0 * 4 + 2, none⟩) hbl').trans d2
  replace d3 := (B0.cell (p := ⟨b', off' + 0 * 4 + 3, none⟩) hbl').trans d3
  simp only [Nat.zero_mul, Nat.add_zero] at e0 e1 e2 e3 d0 d1 d2 d3
  replace hbl : b < w0.heap.size := Nat.lt_of_lt_of_le hbl B0.size
  replace hbl' : b' < w0.heap.size := Nat.lt_of_lt_of_le hbl' B0.size
  have zA := bA.lt
  have zB := bB.lt
  have k1 := bA.cell
  have k2 := bB.cell
  clear hcs hcs' hk hk' hx hy fx kx fy ky hat hat' hd
  have f1 : w0.cell? ⟨w.heap.size, 3, none⟩ = some (.slice (some ⟨b, off, none⟩) 1 c2) := k1 3
  have f2 : w0.cell? ⟨w.heap.size + 1, 3, none⟩ = some (.slice (some ⟨b', off', none⟩) 1 c2') := k2 3
  have K0 : Below w0.heap.size w0 w0.drew := (Below.refl _ w0).drew
  have KEEP : ∀ W, Below w0.heap.size w0 W → W.cell? ⟨w.heap.size, 3, none⟩ = some (.slice (some ⟨b, off, none⟩) 1 c2) ∧ W.cell? ⟨w.heap.size + 1, 3, none⟩ = some (.slice (some ⟨b', off', none⟩) 1 c2') ∧ W.cell? ⟨b, off, none⟩ = some (u0) ∧ W.cell? ⟨b, off + 1, none⟩ = some (u1) ∧ W.cell? ⟨b, off + 2, none⟩ = some (u2) ∧ W.cell? ⟨b, off + 3, none⟩ = some (u3) ∧ W.cell? ⟨b', off', none⟩ = some (v0) ∧ W.cell? ⟨b', off' + 1, none⟩ = some (v1) ∧ W.cell? ⟨b', off' + 2, none⟩ = some (v2) ∧ W.cell? ⟨b', off' + 3, none⟩ = some (v3) := fun W G => ⟨(G.cell (p := ⟨w.heap.size, 3, none⟩) zA).trans f1, (G.cell (p := ⟨w.heap.size + 1, 3, none⟩) zB).trans f2, (G.cell (p := ⟨b, off, none⟩) hbl).trans e0, (G.cell (p := ⟨b, off + 1, none⟩) hbl).trans e1, (G.cell (p := ⟨b, off + 2, none⟩) hbl).trans e2, (G.cell (p := ⟨b, off + 3, none⟩) hbl).trans e3, (G.cell (p := ⟨b', off', none⟩) hbl').trans d0, (G.cell (p := ⟨b', off' + 1, none⟩) hbl').trans d1, (G.cell (p := ⟨b', off' + 2, none⟩) hbl').trans d2, (G.cell (p := ⟨b', off' + 3, none⟩) hbl').trans d3⟩
  change Calls Tryz.prog 32 #[.agg #[.int .i64 23, .string n, .slice A l.length c, .slice (some ⟨b, off, none⟩) 1 c2], .agg #[.int .i64 23, .string n', .slice A' l'.length c', .slice (some ⟨b', off', none⟩) 1 c2'], .string t] w _
  cases hz : tyEq 100 x y
  · rw [hz] at HX
    rw [if_neg (by rw [hz]; decide)] at HV
    clear hz
    go_enter Tryz.func32, Tryz.ntmps32
    go_upto_region 1 with fail
    rw [← hw0]
    clear hw0
    go_upto_region 33 with (go_at_call 60; refine (numRange_i0 _ _).mono ?_; rintro e w9 ⟨rfl, rfl⟩)
    clear k1 k2
    go_region_held3 (fun w' => w'.cell? ⟨w.heap.size, 3, none⟩ = some (.slice (some ⟨b, off, none⟩) 1 c2) ∧ w'.cell? ⟨w.heap.size + 1, 3, none⟩ = some (.slice (some ⟨b', off', none⟩) 1 c2') ∧ w'.cell? ⟨b, off, none⟩ = some (u0) ∧ w'.cell? ⟨b, off + 1, none⟩ = some (u1) ∧ w'.cell? ⟨b, off + 2, none⟩ = some (u2) ∧ w'.cell? ⟨b, off + 3, none⟩ = some (u3) ∧ w'.cell? ⟨b', off', none⟩ = some (v0) ∧ w'.cell? ⟨b', off' + 1, none⟩ = some (v1) ∧ w'.cell? ⟨b', off' + 2, none⟩ = some (v2) ∧ w'.cell? ⟨b', off' + 3, none⟩ = some (v3))
      (first | exact KEEP _ K0 | exact KEEP _ B5 | (trace_state; fail))
      (first | (go_at_call 65; ((with_reducible refine (HX.out _ H0.out.1.drew H0.out.2.drew).mono ?_); rintro e w5 ⟨rfl, hb5⟩; have bC5 := Box.call (w := w0.drew) bC hb5; have j5 := bC5.cell; have l5 := bC5.frozen; have B5 := K0.trans (hb5.mono K0.size))))
    all_goals
      have fin := Lib.hid (show Below w.heap.size w w5 from B0.trans (B5.mono B0.size))
      clear j5 l5
      go_wp2_with fail
      refine (reason_i 3 _ _).mono ?_
      rintro e w7 ⟨rfl, hb7⟩
      have fin7 := fin.out.trans (hb7.mono (fin.out.size))
      have bC7 := bC5.call hb7
      have j5 := bC7.cell
      have l5 := bC7.frozen
      go_wp2
      exact bodyPost_ret (v := .tuple #[.agg #[.int .i64 3, .string t], .bool true]) (by simp [results, Tryz.results32, go_sem, j5]) rfl ⟨by rw [HV.out]; rfl, (fin7.setCell (by simp <;> omega) _).setCell (by simp <;> omega) _⟩
  · rw [hz] at HX
    rw [if_pos hz] at HV
    clear hz
    go_enter Tryz.func32, Tryz.ntmps32
    go_upto_region 1 with fail
    rw [← hw0]
    clear hw0
    go_upto_region 33 with (go_at_call 60; refine (numRange_i0 _ _).mono ?_; rintro e w9 ⟨rfl, rfl⟩)
    clear k1 k2
    go_region_held3 (fun w' => w'.cell? ⟨w.heap.size, 3, none⟩ = some (.slice (some ⟨b, off, none⟩) 1 c2) ∧ w'.cell? ⟨w.heap.size + 1, 3, none⟩ = some (.slice (some ⟨b', off', none⟩) 1 c2') ∧ w'.cell? ⟨b, off, none⟩ = some (u0) ∧ w'.cell? ⟨b, off + 1, none⟩ = some (u1) ∧ w'.cell? ⟨b, off + 2, none⟩ = some (u2) ∧ w'.cell? ⟨b, off + 3, none⟩ = some (u3) ∧ w'.cell? ⟨b', off', none⟩ = some (v0) ∧ w'.cell? ⟨b', off' + 1, none⟩ = some (v1) ∧ w'.cell? ⟨b', off' + 2, none⟩ = some (v2) ∧ w'.cell? ⟨b', off' + 3, none⟩ = some (v3))
      (first | exact KEEP _ K0 | exact KEEP _ B5 | (trace_state; fail))
      (first | (go_at_call 65; ((with_reducible refine (HX.out _ H0.out.1.drew H0.out.2.drew).mono ?_); rintro e w5 ⟨rfl, hb5⟩; have bC5 := Box.call (w := w0.drew) bC hb5; have j5 := bC5.cell; have l5 := bC5.frozen; have B5 := K0.trans (hb5.mono K0.size))))
    all_goals
      have fin := Lib.hid (show Below w.heap.size w w5 from B0.trans (B5.mono B0.size))
      clear j5 l5
      go_wp2_with fail
      refine (none_i _).mono ?_
      rintro e w7 ⟨rfl, hb7⟩
      have fin7 := fin.out.trans (hb7.mono (fin.out.size))
      have bC7 := bC5.call hb7
      have j5 := bC7.cell
      have l5 := bC7.frozen
      go_wp2
      exact bodyPost_ret (v := .tuple #[.agg #[.int .i64 0, .string ⟨#[]⟩], .bool false]) (by simp [results, Tryz.results32, go_sem, j5]) rfl ⟨by rw [HV.out]; rfl, (fin7.setCell (by simp <;> omega) _).setCell (by simp <;> omega) _⟩
end Go.Proofs.YtoioljkhinodaaaGreatDoor
namespace Go.Proofs.YtoioljkhinodaaaGreatDoor
open Go.RowKit Go.Shelf

set_option maxHeartbeats 4000000 in
set_option maxRecDepth 20000 in
theorem res_i (m : Nat) (C : World → Prop) (hC : ∀ w w', C w → Below w.heap.size w w' → C w') (ih : WhyAt 32 C m) (k : Int) (n n' : ByteArray) (l l' : List ByteArray) (kids kids' : List Ty) (t : ByteArray) (cs cs' : List Value) (w : World) (hcw : C w) (hd : Ty.deep (.mk k n l kids) ≤ m + 1) (hx : Ty.all shape (.mk k n l kids) = true) (hy : Ty.all shape (.mk k n' l' kids') = true) (ht : t.size + 20 * (m + 1) ≤ 1000000) (hcs : D.Ats w anyB (Ty.ds (.mk k n l kids)) cs) (hcs' : D.Ats w anyB (Ty.ds (.mk k n' l' kids')) cs') (hk : k = 14) :
    Calls Tryz.prog 32 #[.agg cs.toArray, .agg cs'.toArray, .string t] w fun e w' => e = .returned (retR (whyN (m + 1) (.mk k n l kids) (.mk k n' l' kids') t)) ∧ Below w.heap.size w w' := by
  subst hk
  obtain ⟨fx, kx⟩ := Fit.of hx
  obtain ⟨fy, ky⟩ := Fit.of hy
  obtain ⟨x, x', rfl⟩ := two_of (fx.two rfl)
  obtain ⟨y, y', rfl⟩ := two_of (fy.two rfl)
  obtain ⟨A, c, A2, c2, rfl, -, -, -, hk⟩ := Ty.open_ hcs
  obtain ⟨A', c', A2', c2', rfl, -, -, -, hk'⟩ := Ty.open_ hcs'
  obtain ⟨b, off, u0, u1, u2, u3, rfl, -, hbl, hat, e0, e1, e2, e3⟩ := rows_at4 Ty.len hk (show [x, x'][0]? = some x from rfl)
  obtain ⟨b', off', v0, v1, v2, v3, rfl, -, hbl', hat', d0, d1, d2, d3⟩ := rows_at4 Ty.len hk' (show [y, y'][0]? = some y from rfl)
  obtain ⟨bb, oo, r0, r1, r2, r3, ee, -, -, hat2, p0, p1, p2, p3⟩ := rows_at4 Ty.len hk (show [x, x'][1]? = some x' from rfl)
  simp only [Option.some.injEq, Addr.mk.injEq] at ee
  obtain ⟨rfl, rfl, -⟩ := ee
  obtain ⟨bb, oo, x0, x1, x2, x3, ee, -, -, hat2', s0, s1, s2, s3⟩ := rows_at4 Ty.len hk' (show [y, y'][1]? = some y' from rfl)
  simp only [Option.some.injEq, Addr.mk.injEq] at ee
  obtain ⟨rfl, rfl, -⟩ := ee
  have HV := Lib.hid (show whyN (m + 1) (.mk 14 n l [x, x']) (.mk 14 n' l' [y, y']) t = orR (whyN m x y (t ++ ⟨#[46, 111, 107]⟩)) (whyN m x' y' (t ++ ⟨#[46, 101, 114, 114]⟩)) by rw [why_kind (by decide), body14]; rfl)
  have HX := Lib.hid (fun w' hc h h' => ih x y (t ++ ⟨#[46, 111, 107]⟩) [u0, u1, u2, u3] [v0, v1, v2, v3] w' (deep_kid hd (.head _)) (kx x (.head _)) (ky y (.head _)) (by rw [ByteArray.size_append]; show t.size + 3 + 20 * m ≤ 1000000; omega) hc h h')
  have HY := Lib.hid (fun w' hc h h' => ih x' y' (t ++ ⟨#[46, 101, 114, 114]⟩) [r0, r1, r2, r3] [x0, x1, x2, x3] w' (deep_kid hd (.tail _ (.head _))) (kx x' (.tail _ (.head _))) (ky y' (.tail _ (.head _))) (by rw [ByteArray.size_append]; show t.size + 4 + 20 * m ≤ 1000000; omega) hc h h')
  simp only [retR_eq] at HX HY
  obtain ⟨R, hR⟩ : ∃ R, whyN m x y (t ++ ⟨#[46, 111, 107]⟩) = R := ⟨_, rfl⟩
  obtain ⟨R2, hR2⟩ : ∃ R, whyN m x' y' (t ++ ⟨#[46, 101, 114, 114]⟩) = R := ⟨_, rfl⟩
  rw [hR] at HX HV
  rw [hR2] at HY HV
  clear hR hR2
  obtain ⟨w0, hw0, B0, bA, bB, bC⟩ := blocks3 w 30 30 34 [.int .i64 14, .string n, .slice A l.length c, .slice (some ⟨b, off, none⟩) 2 c2] [.int .i64 14, .string n', .slice A' l'.length c', .slice (some ⟨b', off', none⟩) 2 c2'] [.int .i64 0, .string ⟨#[]⟩]
  have H0 := Lib.hid (And.intro (hat.below B0) (And.intro (hat'.below B0) (And.intro (hat2.below B0) (And.intro (hat2'.below B0) (And.intro hC (hC _ _ hcw B0))))))
  replace e0 := (B0.cell (p := ⟨b, off + 0 * 4, none⟩) hbl).trans e0
  replace e1 := (B0.cell (p := ⟨b, off + 0 * 4 + 1, none⟩) hbl).trans e1
  replace e2 := (B0.cell (p := ⟨b, off + 0 * 4 + 2, none⟩) hbl).trans e2
  replace e3 := (B0.cell (p := ⟨b, off + 0 * 4 + 3, none⟩) hbl).trans e3
  replace d0 := (B0.cell (p := ⟨b', off' + 0 * 4, none⟩) hbl').trans d0
  replace d1 := (B0.cell (p := ⟨b', off' + 0 * 4 + 1, none⟩) hbl').trans d1
  replace d2 := (B0.cell (p := ⟨b', off' + 0 * 4 + 2, none⟩) hbl').trans d2
  replace d3 := (B0.cell (p := ⟨b', off' + 0 * 4 + 3, none⟩) hbl').trans d3
  simp only [Nat.zero_mul, Nat.add_zero] at e0 e1 e2 e3 d0 d1 d2 d3
  replace p0 : w0.cell? ⟨b, off + 4, none⟩ = some r0 := (B0.cell (p := ⟨b, off + 4, none⟩) hbl).trans p0
  replace p1 : w0.cell? ⟨b, off + 5, none⟩ = some r1 := (B0.cell (p := ⟨b, off + 5, none⟩) hbl).trans p1
  replace p2 : w0.cell? ⟨b, off + 6, none⟩ = some r2 := (B0.cell (p := ⟨b, off + 6, none⟩) hbl).trans p2
  replace p3 : w0.cell? ⟨b, off + 7, none⟩ = some r3 := (B0.cell (p := ⟨b, off + 7, none⟩) hbl).trans p3
  replace s0 : w0.cell? ⟨b', off' + 4, none⟩ = some x0 := (B0.cell (p := ⟨b', off' + 4, none⟩) hbl').trans s0
  replace s1 : w0.cell? ⟨b', off' + 5, none⟩ = some x1 := (B0.cell (p := ⟨b', off' + 5, none⟩) hbl').trans s1
  replace s2 : w0.cell? ⟨b', off' + 6, none⟩ = some x2 := (B0.cell (p := ⟨b', off' + 6, none⟩) hbl').trans s2
  replace s3 : w0.cell? ⟨b', off' + 7, none⟩ = some x3 := (B0.cell (p := ⟨b', off' + 7, none⟩) hbl').trans s3
  replace hbl : b < w.heap.size + 2 := by omega
  replace hbl' : b' < w.heap.size + 2 := by omega
  have zA : w.heap.size < w.heap.size + 2 := by omega
  have zB : w.heap.size + 1 < w.heap.size + 2 := by omega
  have szw : w.heap.size + 2 ≤ w0.heap.size := by have := bC.lt; omega
  have k1 := bA.cell
  have k2 := bB.cell
  have h1 : ¬ 9223372036854775807 < t.size + 3 := by omega
  have h2 : ¬ 9223372036854775807 < t.size + 4 := by omega
  clear hcs hcs' hk hk' hx hy fx kx fy ky hat hat' hat2 hat2' ih hd ht hC hcw
  have f1 : w0.cell? ⟨w.heap.size, 3, none⟩ = some (.slice (some ⟨b, off, none⟩) 2 c2) := k1 3
  have f2 : w0.cell? ⟨w.heap.size + 1, 3, none⟩ = some (.slice (some ⟨b', off', none⟩) 2 c2') := k2 3
  have K0 : Below w0.heap.size w0 w0.drew := (Below.refl _ w0).drew
  have K1 : Below w0.heap.size w0 (w0.alloc (.cells #[.int .i64 0, .string ⟨#[]⟩] 34)).drew := ((Below.refl _ w0).alloc (Nat.le_refl _) _).drew
  have KEEPX : ∀ W, Below (w.heap.size + 2) w0 W → W.cell? ⟨w.heap.size, 3, none⟩ = some (.slice (some ⟨b, off, none⟩) 2 c2) ∧ W.cell? ⟨w.heap.size + 1, 3, none⟩ = some (.slice (some ⟨b', off', none⟩) 2 c2') ∧ W.cell? ⟨b, off, none⟩ = some (u0) ∧ W.cell? ⟨b, off + 1, none⟩ = some (u1) ∧ W.cell? ⟨b, off + 2, none⟩ = some (u2) ∧ W.cell? ⟨b, off + 3, none⟩ = some (u3) ∧ W.cell? ⟨b', off', none⟩ = some (v0) ∧ W.cell? ⟨b', off' + 1, none⟩ = some (v1) ∧ W.cell? ⟨b', off' + 2, none⟩ = some (v2) ∧ W.cell? ⟨b', off' + 3, none⟩ = some (v3) := fun W G => ⟨(G.cell (p := ⟨w.heap.size, 3, none⟩) zA).trans f1, (G.cell (p := ⟨w.heap.size + 1, 3, none⟩) zB).trans f2, (G.cell (p := ⟨b, off, none⟩) hbl).trans e0, (G.cell (p := ⟨b, off + 1, none⟩) hbl).trans e1, (G.cell (p := ⟨b, off + 2, none⟩) hbl).trans e2, (G.cell (p := ⟨b, off + 3, none⟩) hbl).trans e3, (G.cell (p := ⟨b', off', none⟩) hbl').trans d0, (G.cell (p := ⟨b', off' + 1, none⟩) hbl').trans d1, (G.cell (p := ⟨b', off' + 2, none⟩) hbl').trans d2, (G.cell (p := ⟨b', off' + 3, none⟩) hbl').trans d3⟩
  have KEEP : ∀ W, Below w0.heap.size w0 W → W.cell? ⟨w.heap.size, 3, none⟩ = some (.slice (some ⟨b, off, none⟩) 2 c2) ∧ W.cell? ⟨w.heap.size + 1, 3, none⟩ = some (.slice (some ⟨b', off', none⟩) 2 c2') ∧ W.cell? ⟨b, off, none⟩ = some (u0) ∧ W.cell? ⟨b, off + 1, none⟩ = some (u1) ∧ W.cell? ⟨b, off + 2, none⟩ = some (u2) ∧ W.cell? ⟨b, off + 3, none⟩ = some (u3) ∧ W.cell? ⟨b', off', none⟩ = some (v0) ∧ W.cell? ⟨b', off' + 1, none⟩ = some (v1) ∧ W.cell? ⟨b', off' + 2, none⟩ = some (v2) ∧ W.cell? ⟨b', off' + 3, none⟩ = some (v3) := fun W G => KEEPX W (G.mono szw)
  have KEEPY : ∀ W, Below (w.heap.size + 2) w0 W → W.cell? ⟨w.heap.size, 3, none⟩ = some (.slice (some ⟨b, off, none⟩) 2 c2) ∧ W.cell? ⟨w.heap.size + 1, 3, none⟩ = some (.slice (some ⟨b', off', none⟩) 2 c2') ∧ W.cell? ⟨b, off + 4, none⟩ = some (r0) ∧ W.cell? ⟨b, off + 5, none⟩ = some (r1) ∧ W.cell? ⟨b, off + 6, none⟩ = some (r2) ∧ W.cell? ⟨b, off + 7, none⟩ = some (r3) ∧ W.cell? ⟨b', off' + 4, none⟩ = some (x0) ∧ W.cell? ⟨b', off' + 5, none⟩ = some (x1) ∧ W.cell? ⟨b', off' + 6, none⟩ = some (x2) ∧ W.cell? ⟨b', off' + 7, none⟩ = some (x3) := fun W G => ⟨(G.cell (p := ⟨w.heap.size, 3, none⟩) zA).trans f1, (G.cell (p := ⟨w.heap.size + 1, 3, none⟩) zB).trans f2, (G.cell (p := ⟨b, off + 4, none⟩) hbl).trans p0, (G.cell (p := ⟨b, off + 5, none⟩) hbl).trans p1, (G.cell (p := ⟨b, off + 6, none⟩) hbl).trans p2, (G.cell (p := ⟨b, off + 7, none⟩) hbl).trans p3, (G.cell (p := ⟨b', off' + 4, none⟩) hbl').trans s0, (G.cell (p := ⟨b', off' + 5, none⟩) hbl').trans s1, (G.cell (p := ⟨b', off' + 6, none⟩) hbl').trans s2, (G.cell (p := ⟨b', off' + 7, none⟩) hbl').trans s3⟩
  have HXX := Lib.hid (fun W (G : Below w0.heap.size w0 W) => HX.out W (H0.out.2.2.2.2.1 _ _ H0.out.2.2.2.2.2 G) (H0.out.1.below G) (H0.out.2.1.below G))
  have HYY := Lib.hid (fun W (G : Below w0.heap.size w0 W) => HY.out W (H0.out.2.2.2.2.1 _ _ H0.out.2.2.2.2.2 G) (H0.out.2.2.1.below G) (H0.out.2.2.2.1.below G))
  clear HX HY H0
  change Calls Tryz.prog 32 #[.agg #[.int .i64 14, .string n, .slice A l.length c, .slice (some ⟨b, off, none⟩) 2 c2], .agg #[.int .i64 14, .string n', .slice A' l'.length c', .slice (some ⟨b', off', none⟩) 2 c2'], .string t] w _
  go_enter Tryz.func32, Tryz.ntmps32
  go_upto_region 1 with fail
  rw [← hw0]
  clear hw0
  go_upto_region 15 with (go_at_call 60; refine (numRange_i0 _ _).mono ?_; rintro e w9 ⟨rfl, rfl⟩)
  clear k1 k2 p0 p1 p2 p3 s0 s1 s2 s3
  go_cut [14, 15] (fun p o wx => ∃ g, p = .pointer (some ⟨g, 0, none⟩) ∧ o = .bool (rsO R) ∧ Below w0.heap.size w0 wx ∧ w0.heap.size ≤ g ∧ g < wx.heap.size ∧ wx.cell? ⟨g, 0, none⟩ = some (.int .i64 (rsK R)) ∧ wx.cell? ⟨g, 1, none⟩ = some (.string (rsT R)))
  case first =>
    go_region_held3 (fun w' => w'.cell? ⟨w.heap.size, 3, none⟩ = some (.slice (some ⟨b, off, none⟩) 2 c2) ∧ w'.cell? ⟨w.heap.size + 1, 3, none⟩ = some (.slice (some ⟨b', off', none⟩) 2 c2') ∧ w'.cell? ⟨b, off, none⟩ = some (u0) ∧ w'.cell? ⟨b, off + 1, none⟩ = some (u1) ∧ w'.cell? ⟨b, off + 2, none⟩ = some (u2) ∧ w'.cell? ⟨b, off + 3, none⟩ = some (u3) ∧ w'.cell? ⟨b', off', none⟩ = some (v0) ∧ w'.cell? ⟨b', off' + 1, none⟩ = some (v1) ∧ w'.cell? ⟨b', off' + 2, none⟩ = some (v2) ∧ w'.cell? ⟨b', off' + 3, none⟩ = some (v3))
      (first | exact KEEP _ K0 | exact KEEP _ K1 | exact KEEP _ B5 | exact KEEP _ (B5.alloc B5.size _) | exact KEEP _ ((B5.setCell (by first | exact Nat.le_refl _ | exact K0.size | exact B5.size | (simp; done)) _).setCell (by first | exact Nat.le_refl _ | exact K0.size | exact B5.size | (simp; done)) _) | exact KEEP _ (((B5.alloc B5.size _).setCell (by first | exact Nat.le_refl _ | exact K0.size | exact B5.size | (simp; done)) _).setCell (by first | exact Nat.le_refl _ | exact K0.size | exact B5.size | (simp; done)) _) | (trace_state; fail))
      (first | (go_at_call 32; (first | (with_reducible refine (HXX.out _ K0).mono ?_) | (with_reducible refine (HXX.out _ K1).mono ?_)); rintro e w5 ⟨rfl, hb5⟩; have B5 : Below w0.heap.size w0 w5 := (by first | exact K0.trans (hb5.mono K0.size) | exact K1.trans (hb5.mono K1.size)); (first | (have bG : Box w5 w0.heap.size 34 [.int .i64 0, .string ⟨#[]⟩] := Box.call (w := (w0.alloc (.cells #[.int .i64 0, .string ⟨#[]⟩] 34)).drew) (Box.new w0 34 [.int .i64 0, .string ⟨#[]⟩]) hb5; have j5 := bG.cell; have l5 := bG.frozen; have z5 := bG.lt) | skip)))
    all_goals
      go_wp2_with fail
      go_meet
      first | exact ⟨_, rfl, rfl, recEnd B5 bG (by first | exact Nat.le_refl _ | exact K0.size | exact B5.size | (simp; done))⟩ | exact ⟨_, rfl, rfl, recEnd2 B5⟩
  case rest =>
    obtain ⟨g, rfl, rfl, B1, hg, hgl, m0, m1⟩ := hcut
    obtain ⟨W1, hW1⟩ : ∃ W1, W1 = wc := ⟨_, rfl⟩
    rw [← hW1] at B1 hgl m0 m1 ⊢
    have hb6 := B0.trans (B1.mono B0.size)
    have bC1 := bC.call B1
    clear hW1 e0 e1 e2 e3 d0 d1 d2 d3 K0 K1 f1 f2 HXX KEEP KEEPX
    have j5 := bC1.cell
    have l5 := bC1.frozen
    cases hO : rsO R
    · have HN := Lib.hid (show whyN (m + 1) (.mk 14 n l [x, x']) (.mk 14 n' l' [y, y']) t = R2 by rw [HV.out, rsO_no hO]; rfl)
      clear hO
      have B1N := B1.mono szw
      obtain ⟨f1, f2, p0, p1, p2, p3, s0, s1, s2, s3⟩ := KEEPY W1 B1N
      have N0 : Below (w.heap.size + 2) w0 W1.drew := B1N.drew
      have V0 : Below w0.heap.size w0 W1.drew := B1.drew
      go_upto_region 18 with fail
      clear j5 l5 m0 m1
      go_region_held3 (fun w' => w'.cell? ⟨w.heap.size, 3, none⟩ = some (.slice (some ⟨b, off, none⟩) 2 c2) ∧ w'.cell? ⟨w.heap.size + 1, 3, none⟩ = some (.slice (some ⟨b', off', none⟩) 2 c2') ∧ w'.cell? ⟨b, off + 4, none⟩ = some (r0) ∧ w'.cell? ⟨b, off + 5, none⟩ = some (r1) ∧ w'.cell? ⟨b, off + 6, none⟩ = some (r2) ∧ w'.cell? ⟨b, off + 7, none⟩ = some (r3) ∧ w'.cell? ⟨b', off' + 4, none⟩ = some (x0) ∧ w'.cell? ⟨b', off' + 5, none⟩ = some (x1) ∧ w'.cell? ⟨b', off' + 6, none⟩ = some (x2) ∧ w'.cell? ⟨b', off' + 7, none⟩ = some (x3))
        (first | exact KEEPY _ N0 | exact KEEPY _ B5 | exact KEEPY _ ((B5.setCell (by simp) _).setCell (by simp) _) | (trace_state; fail))
        (first | (go_at_call 32; ((with_reducible refine (HYY.out _ V0).mono ?_); rintro e w5 ⟨rfl, hb5⟩; have bC5 := Box.call (w := W1.drew) bC1 hb5; have j5 := bC5.cell; have l5 := bC5.frozen; have B5 := N0.trans (hb5.mono (Nat.le_trans szw N0.size)))))
      all_goals
        have fin := Lib.hid (show Below w.heap.size w w5 from B0.trans (B5.mono (Nat.le_add_right _ _)))
        go_wp2_with fail
        exact bodyPost_ret (v := .tuple #[.agg #[.int .i64 (rsK R2), .string (rsT R2)], .bool (rsO R2)]) (by simp [results, Tryz.results32, go_sem, j5]) rfl ⟨by rw [HN.out, retR_eq], (fin.out.setCell (by simp <;> omega) _).setCell (by simp <;> omega) _⟩
    · have HN := Lib.hid (show whyN (m + 1) (.mk 14 n l [x, x']) (.mk 14 n' l' [y, y']) t = R by
        rw [HV.out]
        cases R with
        | none => cases hO
        | some r => rfl)
      go_wp2
      exact bodyPost_ret (v := .tuple #[.agg #[.int .i64 (rsK R), .string (rsT R)], .bool true]) (by simp [results, Tryz.results32, go_sem, j5]) rfl ⟨by rw [HN.out, retR_eq, hO], (hb6.setCell (by simp <;> omega) _).setCell (by simp <;> omega) _⟩
end Go.Proofs.YtoioljkhinodaaaGreatDoor
namespace Go.Proofs.YtoioljkhinodaaaGreatDoor
open Go.RowKit Go.Shelf

set_option maxHeartbeats 4000000 in
set_option maxRecDepth 20000 in
theorem closure_i (m : Nat) (C : World → Prop) (hC : ∀ w w', C w → Below w.heap.size w w' → C w') (ih : WhyAt 32 C m) (y x : Ty) (u : ByteArray) (us vs : List Value) (w : World) (hd : x.deep ≤ m) (hx : Ty.all shape x = true) (hy : Ty.all shape y = true) (hu : u.size + 20 * m ≤ 1000000) (hcw : C w) (hus : D.Ats w anyB y.ds us) (hvs : D.Ats w anyB x.ds vs) :
    Calls Tryz.prog 64 #[.agg us.toArray, .agg vs.toArray, .string u] w fun e w' => e = .returned (retR (whyN m x y u)) ∧ Below w.heap.size w w' := by
  obtain ⟨p0, p1, p2, p3, p4, p5, p6, p7, rfl⟩ := Ty.form hus
  obtain ⟨q0, q1, q2, q3, q4, q5, q6, q7, rfl⟩ := Ty.form hvs
  obtain ⟨w0, hw0, B0, bA, bB, bC⟩ := blocks3 w 30 30 34 [.int .i64 p0, .string p1, .slice p2 p3 p4, .slice p5 p6 p7] [.int .i64 q0, .string q1, .slice q2 q3 q4, .slice q5 q6 q7] [.int .i64 0, .string ⟨#[]⟩]
  have HX := Lib.hid (ih x y u _ _ w0 hd hx hy hu (hC _ _ hcw B0) (hvs.below B0) (hus.below B0))
  obtain ⟨R, hR⟩ : ∃ R, whyN m x y u = R := ⟨_, rfl⟩
  rw [hR] at HX ⊢
  simp only [retR_eq] at HX ⊢
  have k1 := bA.cell
  have k2 := bB.cell
  clear hus hvs ih hC hcw hR
  change Calls Tryz.prog 64 #[.agg #[.int .i64 p0, .string p1, .slice p2 p3 p4, .slice p5 p6 p7], .agg #[.int .i64 q0, .string q1, .slice q2 q3 q4, .slice q5 q6 q7], .string u] w _
  go_enter Tryz.func64, Tryz.ntmps64
  go_upto_region 1 with fail
  rw [← hw0]
  clear hw0
  go_wp2_with fail
  refine HX.out.mono ?_
  rintro e w5 ⟨rfl, hb5⟩
  have fin := Lib.hid (B0.trans (hb5.mono B0.size))
  have bC5 := bC.call hb5
  have j5 := bC5.cell
  have l5 := bC5.frozen
  clear k1 k2
  go_wp2
  exact bodyPost_ret (v := .tuple #[.agg #[.int .i64 (rsK R), .string (rsT R)], .bool (rsO R)]) (by simp [results, Tryz.results64, go_sem, j5]) rfl ⟨rfl, (fin.out.setCell (by simp <;> omega) _).setCell (by simp <;> omega) _⟩
set_option maxHeartbeats 4000000 in
set_option maxRecDepth 20000 in
theorem call15_i (m : Nat) (C : World → Prop) (hC : ∀ w w', C w → Below w.heap.size w w' → C w') (ih : WhyAt 32 C m) (k : Int) (n n' : ByteArray) (l l' : List ByteArray) (kids kids' : List Ty) (t : ByteArray) (cs cs' : List Value) (w : World) (hcw : C w) (hd : Ty.deep (.mk k n l kids) ≤ m + 1) (hx : Ty.all shape (.mk k n l kids) = true) (hy : Ty.all shape (.mk k n' l' kids') = true) (ht : t.size + 20 * (m + 1) ≤ 1000000) (hcs : D.Ats w anyB (Ty.ds (.mk k n l kids)) cs) (hcs' : D.Ats w anyB (Ty.ds (.mk k n' l' kids')) cs') (hk : k = 15) (hTab : ∀ w, C w → Tab10 w) :
    Calls Tryz.prog 32 #[.agg cs.toArray, .agg cs'.toArray, .string t] w fun e w' => e = .returned (retR (whyN (m + 1) (.mk k n l kids) (.mk k n' l' kids') t)) ∧ Below w.heap.size w w' := by
  subst hk
  have HV := Lib.hid (show whyN (m + 1) (.mk 15 n l kids) (.mk 15 n' l' kids') t = (if kids.length = kids'.length then firstUp (tupR (whyN m) kids kids' t) kids.length else some (3, t)) by rw [why_kind (by decide), body15])
  obtain ⟨fx, kx⟩ := Fit.of hx
  obtain ⟨fy, ky⟩ := Fit.of hy
  obtain ⟨A, c, A2, c2, rfl, -, -, -, -⟩ := Ty.open_ hcs
  obtain ⟨A', c', A2', c2', rfl, -, -, -, -⟩ := Ty.open_ hcs'
  obtain ⟨w0, hw0, B0, bA, bB, bC⟩ := blocks3 w 30 30 34 [.int .i64 15, .string n, .slice A l.length c, .slice A2 kids.length c2] [.int .i64 15, .string n', .slice A' l'.length c', .slice A2' kids'.length c2'] [.int .i64 0, .string ⟨#[]⟩]
  have HX := Lib.hid (whyNotTuple_i m C hC ih 15 n n' l l' kids kids' t [.int .i64 15, .string n, .slice A l.length c, .slice A2 kids.length c2] [.int .i64 15, .string n', .slice A' l'.length c', .slice A2' kids'.length c2'] w0 (hC _ _ hcw B0) hd hx hy ht (hcs.below B0) (hcs'.below B0) rfl hTab)
  obtain ⟨R, hR⟩ : ∃ R, (if kids.length = kids'.length then firstUp (tupR (whyN m) kids kids' t) kids.length else some (3, t)) = R := ⟨_, rfl⟩
  rw [hR] at HX HV
  simp only [retR_eq] at HX
  have k1 := bA.cell
  have k2 := bB.cell
  clear hcs hcs' hx hy fx fy kx ky ih hd ht hC hcw hR hTab
  change Calls Tryz.prog 32 #[.agg #[.int .i64 15, .string n, .slice A l.length c, .slice A2 kids.length c2], .agg #[.int .i64 15, .string n', .slice A' l'.length c', .slice A2' kids'.length c2'], .string t] w _
  go_enter Tryz.func32, Tryz.ntmps32
  go_upto_region 1 with fail
  rw [← hw0]
  clear hw0
  go_wp2_with (first | (go_at_call 60; refine (numRange_i0 _ _).mono ?_; rintro e w9 ⟨rfl, rfl⟩))
  refine HX.out.mono ?_
  rintro e w5 ⟨rfl, hb5⟩
  have fin := Lib.hid (B0.trans (hb5.mono B0.size))
  have bC5 := bC.call hb5
  have j5 := bC5.cell
  have l5 := bC5.frozen
  clear k1 k2
  go_wp2
  exact bodyPost_ret (v := .tuple #[.agg #[.int .i64 (rsK R), .string (rsT R)], .bool (rsO R)]) (by simp [results, Tryz.results32, go_sem, j5]) rfl ⟨by rw [HV.out, retR_eq], (fin.out.setCell (by simp <;> omega) _).setCell (by simp <;> omega) _⟩
set_option maxHeartbeats 4000000 in
set_option maxRecDepth 20000 in
theorem call16_i (m : Nat) (C : World → Prop) (hC : ∀ w w', C w → Below w.heap.size w w' → C w') (ih : WhyAt 32 C m) (k : Int) (n n' : ByteArray) (l l' : List ByteArray) (kids kids' : List Ty) (t : ByteArray) (cs cs' : List Value) (w : World) (hcw : C w) (hd : Ty.deep (.mk k n l kids) ≤ m + 1) (hx : Ty.all shape (.mk k n l kids) = true) (hy : Ty.all shape (.mk k n' l' kids') = true) (ht : t.size + 20 * (m + 1) ≤ 1000000) (hcs : D.Ats w anyB (Ty.ds (.mk k n l kids)) cs) (hcs' : D.Ats w anyB (Ty.ds (.mk k n' l' kids')) cs') (hk : k = 16) :
    Calls Tryz.prog 32 #[.agg cs.toArray, .agg cs'.toArray, .string t] w fun e w' => e = .returned (retR (whyN (m + 1) (.mk k n l kids) (.mk k n' l' kids') t)) ∧ Below w.heap.size w w' := by
  subst hk
  have HV := Lib.hid (show whyN (m + 1) (.mk 16 n l kids) (.mk 16 n' l' kids') t = firstUp (recR (whyN m) l l' kids kids' t) l'.length by rw [why_kind (by decide), body16])
  obtain ⟨fx, kx⟩ := Fit.of hx
  obtain ⟨fy, ky⟩ := Fit.of hy
  obtain ⟨A, c, A2, c2, rfl, -, -, -, -⟩ := Ty.open_ hcs
  obtain ⟨A', c', A2', c2', rfl, -, -, -, -⟩ := Ty.open_ hcs'
  obtain ⟨w0, hw0, B0, bA, bB, bC⟩ := blocks3 w 30 30 34 [.int .i64 16, .string n, .slice A l.length c, .slice A2 kids.length c2] [.int .i64 16, .string n', .slice A' l'.length c', .slice A2' kids'.length c2'] [.int .i64 0, .string ⟨#[]⟩]
  have HX := Lib.hid (labels_r C hC (fun y x u => whyN m x y u) 16 16 n' n l' l kids' kids t [.int .i64 16, .string n', .slice A' l'.length c', .slice A2' kids'.length c2'] [.int .i64 16, .string n, .slice A l.length c, .slice A2 kids.length c2] w0 (hC _ _ hcw B0) (fun y hy0 x hx0 s hs us vs W hW h1 h2 => closure_i m C hC ih y x (dotT t s) us vs W (deep_kid hd hx0) (kx x hx0) (ky y hy0) (by have := fy.lab s hs; unfold dotT; rw [ByteArray.size_append, ByteArray.size_append]; show t.size + 1 + s.size + 20 * m ≤ 1000000; omega) hW h1 h2) (.inr ⟨fy.recs (.inl rfl), fx.recs (.inl rfl)⟩) fy.lab fy.many (by omega) (hcs'.below B0) (hcs.below B0))
  rw [← recR_lab] at HX
  obtain ⟨R, hR⟩ : ∃ R, firstUp (recR (whyN m) l l' kids kids' t) l'.length = R := ⟨_, rfl⟩
  rw [hR] at HX HV
  simp only [retR_eq] at HX
  have k1 := bA.cell
  have k2 := bB.cell
  clear hcs hcs' hx hy fx fy kx ky ih hd ht hC hcw hR
  change Calls Tryz.prog 32 #[.agg #[.int .i64 16, .string n, .slice A l.length c, .slice A2 kids.length c2], .agg #[.int .i64 16, .string n', .slice A' l'.length c', .slice A2' kids'.length c2'], .string t] w _
  go_enter Tryz.func32, Tryz.ntmps32
  go_upto_region 1 with fail
  rw [← hw0]
  clear hw0
  go_wp2_with (first | (go_at_call 60; refine (numRange_i0 _ _).mono ?_; rintro e w9 ⟨rfl, rfl⟩))
  refine HX.out.mono ?_
  rintro e w5 ⟨rfl, hb5⟩
  have fin := Lib.hid (B0.trans (hb5.mono B0.size))
  have bC5 := bC.call hb5
  have j5 := bC5.cell
  have l5 := bC5.frozen
  clear k1 k2
  go_wp2
  exact bodyPost_ret (v := .tuple #[.agg #[.int .i64 (rsK R), .string (rsT R)], .bool (rsO R)]) (by simp [results, Tryz.results32, go_sem, j5]) rfl ⟨by rw [HV.out, retR_eq], (fin.out.setCell (by simp <;> omega) _).setCell (by simp <;> omega) _⟩
set_option maxHeartbeats 4000000 in
set_option maxRecDepth 20000 in
theorem call17_i (m : Nat) (C : World → Prop) (hC : ∀ w w', C w → Below w.heap.size w w' → C w') (ih : WhyAt 32 C m) (k : Int) (n n' : ByteArray) (l l' : List ByteArray) (kids kids' : List Ty) (t : ByteArray) (cs cs' : List Value) (w : World) (hcw : C w) (hd : Ty.deep (.mk k n l kids) ≤ m + 1) (hx : Ty.all shape (.mk k n l kids) = true) (hy : Ty.all shape (.mk k n' l' kids') = true) (ht : t.size + 20 * (m + 1) ≤ 1000000) (hcs : D.Ats w anyB (Ty.ds (.mk k n l kids)) cs) (hcs' : D.Ats w anyB (Ty.ds (.mk k n' l' kids')) cs') (hk : k = 17) :
    Calls Tryz.prog 32 #[.agg cs.toArray, .agg cs'.toArray, .string t] w fun e w' => e = .returned (retR (whyN (m + 1) (.mk k n l kids) (.mk k n' l' kids') t)) ∧ Below w.heap.size w w' := by
  subst hk
  have HV := Lib.hid (show whyN (m + 1) (.mk 17 n l kids) (.mk 17 n' l' kids') t = firstUp (varR (whyN m) l l' kids kids' t) l.length by rw [why_kind (by decide), body17 (by omega)])
  obtain ⟨fx, kx⟩ := Fit.of hx
  obtain ⟨fy, ky⟩ := Fit.of hy
  obtain ⟨A, c, A2, c2, rfl, -, -, -, -⟩ := Ty.open_ hcs
  obtain ⟨A', c', A2', c2', rfl, -, -, -, -⟩ := Ty.open_ hcs'
  obtain ⟨w0, hw0, B0, bA, bB, bC⟩ := blocks3 w 30 30 34 [.int .i64 17, .string n, .slice A l.length c, .slice A2 kids.length c2] [.int .i64 17, .string n', .slice A' l'.length c', .slice A2' kids'.length c2'] [.int .i64 0, .string ⟨#[]⟩]
  have HX := Lib.hid (labels_v C hC (whyN m) 17 17 n n' l l' kids kids' t [.int .i64 17, .string n, .slice A l.length c, .slice A2 kids.length c2] [.int .i64 17, .string n', .slice A' l'.length c', .slice A2' kids'.length c2'] w0 (hC _ _ hcw B0) (fun x hx0 y hy0 s hs us vs W hW h1 h2 => ih x y (dotT t s) us vs W (deep_kid hd hx0) (kx x hx0) (ky y hy0) (by have := fx.lab s hs; unfold dotT; rw [ByteArray.size_append, ByteArray.size_append]; show t.size + 1 + s.size + 20 * m ≤ 1000000; omega) hW h1 h2) (.inr ⟨fx.recs (.inr rfl), fy.recs (.inr rfl)⟩) fx.lab fx.many (by omega) (hcs.below B0) (hcs'.below B0))
  rw [← varR_lab] at HX
  obtain ⟨R, hR⟩ : ∃ R, firstUp (varR (whyN m) l l' kids kids' t) l.length = R := ⟨_, rfl⟩
  rw [hR] at HX HV
  simp only [retR_eq] at HX
  have k1 := bA.cell
  have k2 := bB.cell
  clear hcs hcs' hx hy fx fy kx ky ih hd ht hC hcw hR
  change Calls Tryz.prog 32 #[.agg #[.int .i64 17, .string n, .slice A l.length c, .slice A2 kids.length c2], .agg #[.int .i64 17, .string n', .slice A' l'.length c', .slice A2' kids'.length c2'], .string t] w _
  go_enter Tryz.func32, Tryz.ntmps32
  go_upto_region 1 with fail
  rw [← hw0]
  clear hw0
  go_wp2_with (first | (go_at_call 60; refine (numRange_i0 _ _).mono ?_; rintro e w9 ⟨rfl, rfl⟩))
  refine HX.out.mono ?_
  rintro e w5 ⟨rfl, hb5⟩
  have fin := Lib.hid (B0.trans (hb5.mono B0.size))
  have bC5 := bC.call hb5
  have j5 := bC5.cell
  have l5 := bC5.frozen
  clear k1 k2
  go_wp2
  exact bodyPost_ret (v := .tuple #[.agg #[.int .i64 (rsK R), .string (rsT R)], .bool (rsO R)]) (by simp [results, Tryz.results32, go_sem, j5]) rfl ⟨by rw [HV.out, retR_eq], (fin.out.setCell (by simp <;> omega) _).setCell (by simp <;> omega) _⟩
set_option maxHeartbeats 4000000 in
set_option maxRecDepth 20000 in
theorem call18_i (m : Nat) (C : World → Prop) (hC : ∀ w w', C w → Below w.heap.size w w' → C w') (ih : WhyAt 32 C m) (k : Int) (n n' : ByteArray) (l l' : List ByteArray) (kids kids' : List Ty) (t : ByteArray) (cs cs' : List Value) (w : World) (hcw : C w) (hd : Ty.deep (.mk k n l kids) ≤ m + 1) (hx : Ty.all shape (.mk k n l kids) = true) (hy : Ty.all shape (.mk k n' l' kids') = true) (ht : t.size + 20 * (m + 1) ≤ 1000000) (hcs : D.Ats w anyB (Ty.ds (.mk k n l kids)) cs) (hcs' : D.Ats w anyB (Ty.ds (.mk k n' l' kids')) cs') (hk : k = 18) :
    Calls Tryz.prog 32 #[.agg cs.toArray, .agg cs'.toArray, .string t] w fun e w' => e = .returned (retR (whyN (m + 1) (.mk k n l kids) (.mk k n' l' kids') t)) ∧ Below w.heap.size w w' := by
  subst hk
  have HV := Lib.hid (show whyN (m + 1) (.mk 18 n l kids) (.mk 18 n' l' kids') t = firstUp (varR (whyN m) l l' kids kids' t) l.length by rw [why_kind (by decide), body17 (by omega)])
  obtain ⟨fx, kx⟩ := Fit.of hx
  obtain ⟨fy, ky⟩ := Fit.of hy
  obtain ⟨A, c, A2, c2, rfl, -, -, -, -⟩ := Ty.open_ hcs
  obtain ⟨A', c', A2', c2', rfl, -, -, -, -⟩ := Ty.open_ hcs'
  obtain ⟨w0, hw0, B0, bA, bB, bC⟩ := blocks3 w 30 30 34 [.int .i64 18, .string n, .slice A l.length c, .slice A2 kids.length c2] [.int .i64 18, .string n', .slice A' l'.length c', .slice A2' kids'.length c2'] [.int .i64 0, .string ⟨#[]⟩]
  have HX := Lib.hid (labels_v C hC (whyN m) 18 18 n n' l l' kids kids' t [.int .i64 18, .string n, .slice A l.length c, .slice A2 kids.length c2] [.int .i64 18, .string n', .slice A' l'.length c', .slice A2' kids'.length c2'] w0 (hC _ _ hcw B0) (fun x hx0 y hy0 s hs us vs W hW h1 h2 => ih x y (dotT t s) us vs W (deep_kid hd hx0) (kx x hx0) (ky y hy0) (by have := fx.lab s hs; unfold dotT; rw [ByteArray.size_append, ByteArray.size_append]; show t.size + 1 + s.size + 20 * m ≤ 1000000; omega) hW h1 h2) (.inl (fx.none (by omega))) fx.lab fx.many (by omega) (hcs.below B0) (hcs'.below B0))
  rw [← varR_lab] at HX
  obtain ⟨R, hR⟩ : ∃ R, firstUp (varR (whyN m) l l' kids kids' t) l.length = R := ⟨_, rfl⟩
  rw [hR] at HX HV
  simp only [retR_eq] at HX
  have k1 := bA.cell
  have k2 := bB.cell
  clear hcs hcs' hx hy fx fy kx ky ih hd ht hC hcw hR
  change Calls Tryz.prog 32 #[.agg #[.int .i64 18, .string n, .slice A l.length c, .slice A2 kids.length c2], .agg #[.int .i64 18, .string n', .slice A' l'.length c', .slice A2' kids'.length c2'], .string t] w _
  go_enter Tryz.func32, Tryz.ntmps32
  go_upto_region 1 with fail
  rw [← hw0]
  clear hw0
  go_wp2_with (first | (go_at_call 60; refine (numRange_i0 _ _).mono ?_; rintro e w9 ⟨rfl, rfl⟩))
  refine HX.out.mono ?_
  rintro e w5 ⟨rfl, hb5⟩
  have fin := Lib.hid (B0.trans (hb5.mono B0.size))
  have bC5 := bC.call hb5
  have j5 := bC5.cell
  have l5 := bC5.frozen
  clear k1 k2
  go_wp2
  exact bodyPost_ret (v := .tuple #[.agg #[.int .i64 (rsK R), .string (rsT R)], .bool (rsO R)]) (by simp [results, Tryz.results32, go_sem, j5]) rfl ⟨by rw [HV.out, retR_eq], (fin.out.setCell (by simp <;> omega) _).setCell (by simp <;> omega) _⟩
set_option maxHeartbeats 4000000 in
set_option maxRecDepth 20000 in
theorem call19_i (m : Nat) (C : World → Prop) (hC : ∀ w w', C w → Below w.heap.size w w' → C w') (ih : WhyAt 32 C m) (k : Int) (n n' : ByteArray) (l l' : List ByteArray) (kids kids' : List Ty) (t : ByteArray) (cs cs' : List Value) (w : World) (hcw : C w) (hd : Ty.deep (.mk k n l kids) ≤ m + 1) (hx : Ty.all shape (.mk k n l kids) = true) (hy : Ty.all shape (.mk k n' l' kids') = true) (ht : t.size + 20 * (m + 1) ≤ 1000000) (hcs : D.Ats w anyB (Ty.ds (.mk k n l kids)) cs) (hcs' : D.Ats w anyB (Ty.ds (.mk k n' l' kids')) cs') (hk : k = 19) :
    Calls Tryz.prog 32 #[.agg cs.toArray, .agg cs'.toArray, .string t] w fun e w' => e = .returned (retR (whyN (m + 1) (.mk k n l kids) (.mk k n' l' kids') t)) ∧ Below w.heap.size w w' := by
  subst hk
  have HV := Lib.hid (show whyN (m + 1) (.mk 19 n l kids) (.mk 19 n' l' kids') t = firstUp (varR (whyN m) l l' kids kids' t) l.length by rw [why_kind (by decide), body17 (by omega)])
  obtain ⟨fx, kx⟩ := Fit.of hx
  obtain ⟨fy, ky⟩ := Fit.of hy
  obtain ⟨A, c, A2, c2, rfl, -, -, -, -⟩ := Ty.open_ hcs
  obtain ⟨A', c', A2', c2', rfl, -, -, -, -⟩ := Ty.open_ hcs'
  obtain ⟨w0, hw0, B0, bA, bB, bC⟩ := blocks3 w 30 30 34 [.int .i64 19, .string n, .slice A l.length c, .slice A2 kids.length c2] [.int .i64 19, .string n', .slice A' l'.length c', .slice A2' kids'.length c2'] [.int .i64 0, .string ⟨#[]⟩]
  have HX := Lib.hid (labels_v C hC (whyN m) 19 19 n n' l l' kids kids' t [.int .i64 19, .string n, .slice A l.length c, .slice A2 kids.length c2] [.int .i64 19, .string n', .slice A' l'.length c', .slice A2' kids'.length c2'] w0 (hC _ _ hcw B0) (fun x hx0 y hy0 s hs us vs W hW h1 h2 => ih x y (dotT t s) us vs W (deep_kid hd hx0) (kx x hx0) (ky y hy0) (by have := fx.lab s hs; unfold dotT; rw [ByteArray.size_append, ByteArray.size_append]; show t.size + 1 + s.size + 20 * m ≤ 1000000; omega) hW h1 h2) (.inl (fx.none (by omega))) fx.lab fx.many (by omega) (hcs.below B0) (hcs'.below B0))
  rw [← varR_lab] at HX
  obtain ⟨R, hR⟩ : ∃ R, firstUp (varR (whyN m) l l' kids kids' t) l.length = R := ⟨_, rfl⟩
  rw [hR] at HX HV
  simp only [retR_eq] at HX
  have k1 := bA.cell
  have k2 := bB.cell
  clear hcs hcs' hx hy fx fy kx ky ih hd ht hC hcw hR
  change Calls Tryz.prog 32 #[.agg #[.int .i64 19, .string n, .slice A l.length c, .slice A2 kids.length c2], .agg #[.int .i64 19, .string n', .slice A' l'.length c', .slice A2' kids'.length c2'], .string t] w _
  go_enter Tryz.func32, Tryz.ntmps32
  go_upto_region 1 with fail
  rw [← hw0]
  clear hw0
  go_wp2_with (first | (go_at_call 60; refine (numRange_i0 _ _).mono ?_; rintro e w9 ⟨rfl, rfl⟩))
  refine HX.out.mono ?_
  rintro e w5 ⟨rfl, hb5⟩
  have fin := Lib.hid (B0.trans (hb5.mono B0.size))
  have bC5 := bC.call hb5
  have j5 := bC5.cell
  have l5 := bC5.frozen
  clear k1 k2
  go_wp2
  exact bodyPost_ret (v := .tuple #[.agg #[.int .i64 (rsK R), .string (rsT R)], .bool (rsO R)]) (by simp [results, Tryz.results32, go_sem, j5]) rfl ⟨by rw [HV.out, retR_eq], (fin.out.setCell (by simp <;> omega) _).setCell (by simp <;> omega) _⟩
end Go.Proofs.YtoioljkhinodaaaGreatDoor
namespace Go.Proofs.YtoioljkhinodaaaGreatDoor
open Go.RowKit Go.Shelf

theorem whyAt_i (C : World → Prop) (hC : ∀ w w', C w → Below w.heap.size w w' → C w') (hTab : ∀ w, C w → Tab10 w) : ∀ m, WhyAt 32 C m := by
  intro m
  induction m with
  | zero => intro x y t cs cs' w hd; exact absurd (Ty.deep_pos x) (by omega)
  | succ m ih =>
    intro x y t cs cs' w hd hx hy ht hcw hcs hcs'
    obtain ⟨k, n, l, kids⟩ := x
    obtain ⟨k', n', l', kids'⟩ := y
    cases h1 : numK k
    case true =>
      cases h2 : numK k'
      · exact diff10_i m k k' n n' l l' kids kids' t cs cs' w hcs hcs' h1 h2 (fun e => by rw [e, h2] at h1; cases h1)
      · cases h3 : numIn k k'
        · exact num_out_i m k k' n n' l l' kids kids' t cs cs' w hcs hcs' h1 h2 h3
        · exact num_in_i m k k' n n' l l' kids kids' t cs cs' w hcs hcs' h1 h2 h3
    case false =>
      by_cases e : k = k'
      · subst e
        have hr : k < 12 ∨ 23 < k ∨ k = 12 ∨ k = 13 ∨ k = 14 ∨ k = 15 ∨ k = 16 ∨ k = 17 ∨ k = 18 ∨ k = 19 ∨ k = 20 ∨ k = 21 ∨ k = 22 ∨ k = 23 := by omega
        rcases hr with hr | hr | hr | hr | hr | hr | hr | hr | hr | hr | hr | hr | hr | hr
        · exact plain_i m k k n n' l l' kids kids' t cs cs' w hcs hcs' rfl h1 (.inl hr)
        · exact plain_i m k k n n' l l' kids kids' t cs cs' w hcs hcs' rfl h1 (.inr hr)
        · exact kid12_i m C hC ih k n n' l l' kids kids' t cs cs' w hcw hd hx hy ht hcs hcs' hr
        · exact kid13_i m C hC ih k n n' l l' kids kids' t cs cs' w hcw hd hx hy ht hcs hcs' hr
        · exact res_i m C hC ih k n n' l l' kids kids' t cs cs' w hcw hd hx hy ht hcs hcs' hr
        · exact call15_i m C hC ih k n n' l l' kids kids' t cs cs' w hcw hd hx hy ht hcs hcs' hr hTab
        · exact call16_i m C hC ih k n n' l l' kids kids' t cs cs' w hcw hd hx hy ht hcs hcs' hr
        · exact call17_i m C hC ih k n n' l l' kids kids' t cs cs' w hcw hd hx hy ht hcs hcs' hr
        · exact call18_i m C hC ih k n n' l l' kids kids' t cs cs' w hcw hd hx hy ht hcs hcs' hr
        · exact call19_i m C hC ih k n n' l l' kids kids' t cs cs' w hcw hd hx hy ht hcs hcs' hr
        · cases hn : (n.toList == n'.toList)
          · exact name20b_i m k k n n' l l' kids kids' t cs cs' w hcs hcs' hr hr hn
          · exact name20a_i m k k n n' l l' kids kids' t cs cs' w hcs hcs' hr hr hn
        · cases hn : (n.toList == n'.toList)
          · exact name21b_i m k k n n' l l' kids kids' t cs cs' w hcs hcs' hr hr hn
          · exact name21a_i m k k n n' l l' kids kids' t cs cs' w hcs hcs' hr hr hn
        · exact str22_i m C hC ih k n n' l l' kids kids' t cs cs' w hcw hd hx hy ht hcs hcs' hr
        · exact str23_i m C hC ih k n n' l l' kids kids' t cs cs' w hcw hd hx hy ht hcs hcs' hr
      · cases h2 : numK k'
        · exact diff00_i m k k' n n' l l' kids kids' t cs cs' w hcs hcs' h1 h2 e
        · exact diff01_i m k k' n n' l l' kids kids' t cs cs' w hcs hcs' h1 h2 e
end Go.Proofs.YtoioljkhinodaaaGreatDoor
