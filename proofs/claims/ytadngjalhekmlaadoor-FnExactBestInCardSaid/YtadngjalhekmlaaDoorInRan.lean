/- InRange: by the reference and by the program. -/
import Derived.Test.YtadngjalhekmlaaDoorVs
import Derived.Test.YtadngjalhekmlaaDoorData
namespace Go.Proofs.YtadngjalhekmlaaDoor
open Go.RowKit Go.Shelf

/-- A version in a valid range. -/
def inRan (s : ByteArray) (a b : Int) : Bool := decide (0 ≤ numV s) && (rangeOk a b && inR a (numV s) (b - 1))
theorem ran_open {a b : Int} (h : rangeOk a b = true) : 0 ≤ a ∧ a ≤ 999999999 ∧ a + 1 ≤ b ∧ b ≤ 1000000000 := by
  unfold rangeOk at h
  rw [Bool.and_eq_true, inR_iff, inR_iff] at h
  exact ⟨h.1.1, h.1.2, h.2.1, h.2.2⟩
set_option maxHeartbeats 1000000 in
set_option maxRecDepth 20000 in
theorem inRange_s (s : ByteArray) (hs : s.size ≤ 9223372036854775807) (a b : Int) (ha : -9223372036854775808 ≤ a ∧ a ≤ 9223372036854775807) (w : World) :
    Calls Tryd.prog 14 #[.string s, .agg #[.int .i64 a, .int .i64 b]] w fun e w' => e = .returned (.bool (inRan s a b)) ∧ Below w.heap.size w w' := by
  rcases numV_cases s with xs | ⟨m, hm, xs, -⟩
  · have HV := Lib.hid (show inRan s a b = false by unfold inRan; rw [xs]; rfl)
    have HN := Lib.hid xs
    clear xs
    go_enter Tryd.func14, Tryd.ntmps14
    go_wp2_with fail
    refine (l02Num_v s hs _).mono ?_
    rintro e w1 ⟨rfl, hb1⟩
    rw [HN.out]
    obtain ⟨B1, bA⟩ := box1 (cA := [_, _]) hb1
    clear hb1
    have B2 := B1
    go_wp2
    go_ret
    exact ⟨ret_eq (by rw [HV.out]; try rfl), B2⟩
  · have HN := Lib.hid xs
    cases hok : rangeOk a b
    · have HV := Lib.hid (show inRan s a b = false by unfold inRan; rw [hok]; simp)
      have HC := Lib.hid (fun w => rangeOk_s a b w ha.1 ha.2)
      rw [hok] at HC
      clear xs hok
      go_enter Tryd.func14, Tryd.ntmps14
      go_wp2_with fail
      refine (l02Num_v s hs _).mono ?_
      rintro e w1 ⟨rfl, hb1⟩
      rw [HN.out]
      obtain ⟨B1, bA⟩ := box1 (cA := [_, _]) hb1
      clear hb1
      have c := bA.cell
      go_wp2_with fail
      refine (HC.out _).mono ?_
      rintro e w2 ⟨rfl, hb2⟩
      have B2 := B1.trans (hb2.mono B1.size)
      have bA2 := bA.call hb2
      have c2 := bA2.cell
      clear c hb2
      go_wp2
      go_ret
      exact ⟨ret_eq (by rw [HV.out]; try rfl), B2⟩
    · have ho := ran_open hok
      have hval : inRan s a b = (decide (a ≤ (m : Int)) && decide ((m : Int) < b)) := by
        unfold inRan inR
        rw [hok, xs]
        have e : decide (a ≤ (m : Int) ∧ (m : Int) ≤ b - 1) = (decide (a ≤ (m : Int)) && decide ((m : Int) < b)) := by rw [Bool.decide_and]; congr 1; rw [decide_eq_decide]; omega
        have e2 : decide (0 ≤ (m : Int)) = true := by simp
        rw [e, e2]
        rfl
      have HC := Lib.hid (fun w => rangeOk_s a b w ha.1 ha.2)
      rw [hok] at HC
      by_cases hma : a ≤ (m : Int)
      case' pos => have HV := Lib.hid (show inRan s a b = decide ((m : Int) < b) by rw [hval]; simp [hma])
      case' neg => have HV := Lib.hid (show inRan s a b = false by rw [hval]; simp [hma])
      all_goals
        clear xs hok hval ho
        go_enter Tryd.func14, Tryd.ntmps14
        go_wp2_with fail
        refine (l02Num_v s hs _).mono ?_
        rintro e w1 ⟨rfl, hb1⟩
        rw [HN.out]
        obtain ⟨B1, bA⟩ := box1 (cA := [_, _]) hb1
        clear hb1
        have c := bA.cell
        go_wp2_with fail
        refine (HC.out _).mono ?_
        rintro e w2 ⟨rfl, hb2⟩
        have B2 := B1.trans (hb2.mono B1.size)
        have bA2 := bA.call hb2
        have c2 := bA2.cell
        clear c hb2
        go_wp2
        go_ret
        exact ⟨ret_eq (by rw [HV.out]; try rfl), B2⟩
set_option maxHeartbeats 1000000 in
set_option maxRecDepth 20000 in
theorem inRange_i (s : ByteArray) (hs : s.size ≤ 1048576) (a b : Int) (ha : -9223372036854775808 ≤ a ∧ a ≤ 9223372036854775807) (w : World) (hv : VerW w) :
    Calls Tryd.prog 16 #[.string s, .agg #[.int .i64 a, .int .i64 b]] w fun e w' => e = .returned (.bool (inRan s a b)) ∧ Below w.heap.size w w' := by
  have HW := Lib.hid (hv.below ((Below.refl _ _).alloc (Nat.le_refl _) (.cells #[.int .i64 a, .int .i64 b] 27)))
  clear hv
  rcases numV_cases s with xs | ⟨m, hm, xs, -⟩
  · have HV := Lib.hid (show inRan s a b = false by unfold inRan; rw [xs]; rfl)
    have HN := Lib.hid (numOr_neg xs)
    clear xs
    go_enter Tryd.func16, Tryd.ntmps16
    go_wp2_with fail
    refine (versionNumber_v s hs _ HW.out).mono ?_
    rintro e w1 ⟨rfl, hb1⟩
    rw [HN.out.1, HN.out.2]
    obtain ⟨B1, bA⟩ := box1 (cA := [_, _]) hb1
    clear hb1
    have B2 := B1
    go_wp2
    go_ret
    exact ⟨ret_eq (by rw [HV.out]; try rfl), B2⟩
  · have HN := Lib.hid (numOr_pos xs)
    cases hok : rangeOk a b
    case' false =>
      have HV := Lib.hid (show inRan s a b = false by unfold inRan; rw [hok]; simp)
    case' true =>
      have ho := ran_open hok
      have HV := Lib.hid (show inRan s a b = inR a (m : Int) (b - 1) by unfold inRan; rw [hok, xs]; simp)
      have hb9 : -9223372036854775808 ≤ b - 1 ∧ b - 1 ≤ 9223372036854775807 := by omega
      clear ho
    all_goals
      have HC := Lib.hid (fun w => rangeOk_i a b w ha.1 ha.2)
      rw [hok] at HC
      clear xs hok
      go_enter Tryd.func16, Tryd.ntmps16
      go_wp2_with fail
      refine (versionNumber_v s hs _ HW.out).mono ?_
      rintro e w1 ⟨rfl, hb1⟩
      rw [HN.out.1, HN.out.2]
      obtain ⟨B1, bA⟩ := box1 (cA := [_, _]) hb1
      clear hb1
      have c := bA.cell
      go_wp2_with fail
      refine (HC.out _).mono ?_
      rintro e w2 ⟨rfl, hb2⟩
      have B2 := B1.trans (hb2.mono B1.size)
      have bA2 := bA.call hb2
      have c2 := bA2.cell
      clear c hb2
      go_wp2_with (go_at_call 35; refine (within_any _ _ _ _).mono ?_; rintro e w3 ⟨rfl, rfl⟩)
      go_ret
      exact ⟨ret_eq (by rw [HV.out]; try rfl), B2⟩
end Go.Proofs.YtadngjalhekmlaaDoor
