/- RangeOf: the walks. -/
import Derived.Test.YtadngjalhekmlaaDoorRanOf
namespace Go.Proofs.YtadngjalhekmlaaDoor
open Go.RowKit Go.Shelf Go.PlainAid

set_option maxHeartbeats 1000000 in
set_option maxRecDepth 20000 in
theorem rangeOf_s (s : ByteArray) (hs : s.size ≤ 9223372036854775807) (w : World) : Calls Tryd.prog 19 #[.string s] w fun e w' => e = .returned (retRan (ranX s)) ∧ Below w.heap.size w w' := by
  have bC : Box (w.alloc (.cells #[.int .i64 0, .int .i64 0] 27)) w.heap.size 27 [.int .i64 0, .int .i64 0] := Box.new w _ _
  by_cases hl : (s.size : Int) < 2
  · have HV := Lib.hid (ranX_short (s := s) (by omega))
    go_enter Tryd.func19, Tryd.ntmps19
    go_wp2
    refine bodyPost_ret (v := .tuple #[.agg #[.int .i64 0, .int .i64 0], .int .i64 6]) (by simp [results, Tryd.results19, go_sem]) rfl ⟨by rw [HV.out, retRan_mk], ?_⟩
    repeat (first | exact Below.refl _ _ | refine Below.setCell ?_ (by simp <;> omega) _ | refine Below.alloc ?_ (by first | omega | (simp <;> omega)) _)
  · have hl0 : 0 < s.size := by omega
    obtain ⟨c, hc1, hc2, -⟩ := hd_byte hl0
    have hsz := extract_size1 s
    have hbt := PlainAid.get_bt s
    have hi : (1 : Int) ≤ s.size := by omega
    rcases numV_cases (s.extract 1 s.size) with xs | ⟨m, hm, xs, -⟩
    · have HV := Lib.hid (ranX_none xs)
      have HN := Lib.hid xs
      clear xs
      go_enter Tryd.func19, Tryd.ntmps19
      go_wp2_with fail
      refine (l02Num_v (s.extract 1 s.size) (by omega) _).mono ?_
      rintro e w1 ⟨rfl, hb1⟩
      rw [HN.out]
      obtain ⟨B1, bA⟩ := box1 (cA := [_, _]) hb1
      have k1 := bA.cell
      have k2 := bA.frozen
      clear hb1
      go_wp2
      refine bodyPost_ret (v := .tuple #[.agg #[.int .i64 0, .int .i64 0], .int .i64 6]) (by simp [results, Tryd.results19, go_sem, k1]) rfl ⟨by rw [HV.out, retRan_mk], ?_⟩
      repeat (refine Below.setCell ?_ (by simp <;> omega) _)
      exact B1
    · have HN := Lib.hid xs
      have HB := Lib.hid (fun w => l02Below_any c.toNat m c.toNat_lt hm w)
      by_cases h0 : belowN c.toNat m = 0
      · have HV := Lib.hid (ranX_zero xs (by rw [hc2]; exact h0))
        rw [h0] at HB
        clear xs h0
        go_enter Tryd.func19, Tryd.ntmps19
        go_wp2_with fail
        refine (l02Num_v (s.extract 1 s.size) (by omega) _).mono ?_
        rintro e w1 ⟨rfl, hb1⟩
        rw [HN.out]
        obtain ⟨B1, bA⟩ := box1 (cA := [_, _]) hb1
        have k1 := bA.cell
        have k2 := bA.frozen
        clear hb1
        go_wp2_with (go_at_call 37; refine (HB.out _).mono ?_; rintro e w2 ⟨rfl, rfl⟩)
        refine bodyPost_ret (v := .tuple #[.agg #[.int .i64 0, .int .i64 0], .int .i64 6]) (by simp [results, Tryd.results19, go_sem, k1]) rfl ⟨by rw [HV.out, retRan_mk], ?_⟩
        repeat (refine Below.setCell ?_ (by simp <;> omega) _)
        exact B1
      · have HV := Lib.hid (ranX_some hl0 xs (by rw [hc2]; exact h0))
        rw [hc2] at HV
        obtain ⟨r, hr⟩ : ∃ r : Int, (belowN c.toNat m : Int) = r := ⟨_, rfl⟩
        have g1 : (r == 0) = false := by rw [← hr]; simp; omega
        have g2 : ¬ r = 0 := by omega
        rw [hr] at HB HV
        clear xs h0 hr
        go_enter Tryd.func19, Tryd.ntmps19
        go_wp2_with fail
        refine (l02Num_v (s.extract 1 s.size) (by omega) _).mono ?_
        rintro e w1 ⟨rfl, hb1⟩
        rw [HN.out]
        obtain ⟨B1, bA⟩ := box1 (cA := [_, _]) hb1
        have k1 := bA.cell
        have k2 := bA.frozen
        clear hb1
        go_wp2_with (go_at_call 37; refine (HB.out _).mono ?_; rintro e w2 ⟨rfl, rfl⟩)
        refine bodyPost_ret (v := .tuple #[.agg #[.int .i64 m, .int .i64 r], .int .i64 0]) (by simp [results, Tryd.results19, go_sem, k1]) rfl ⟨by rw [HV.out, retRan_mk], ?_⟩
        repeat (refine Below.setCell ?_ (by simp <;> omega) _)
        exact B1
set_option maxHeartbeats 1000000 in
set_option maxRecDepth 20000 in
theorem rangeOf_i (s : ByteArray) (hs : s.size ≤ 1048576) (w : World) (hv : VerW w) : Calls Tryd.prog 20 #[.string s] w fun e w' => e = .returned (retRan (ranX s)) ∧ Below w.heap.size w w' := by
  have HW := Lib.hid (hv.below ((Below.refl _ _).alloc (Nat.le_refl _) (.cells #[.int .i64 0, .int .i64 0] 27)))
  clear hv
  by_cases hl : s = ⟨#[]⟩
  · subst hl
    have HV := Lib.hid (ranX_short (s := ⟨#[]⟩) (by decide))
    go_enter Tryd.func20, Tryd.ntmps20
    go_wp2
    refine bodyPost_ret (v := .tuple #[.agg #[.int .i64 0, .int .i64 0], .int .i64 6]) (by simp [results, Tryd.results20, go_sem]) rfl ⟨by rw [HV.out, retRan_mk], ?_⟩
    repeat (first | exact Below.refl _ _ | refine Below.setCell ?_ (by simp <;> omega) _ | refine Below.alloc ?_ (by first | omega | (simp <;> omega)) _)
  · have hl0 : 0 < s.size := by
      rcases Nat.eq_zero_or_pos s.size with h | h
      · exact absurd (ByteArray.size_eq_zero_iff.1 h) hl
      · exact h
    obtain ⟨c, -, hc2, hc3⟩ := hd_byte hl0
    have hsz := extract_size1 s
    have hi : (1 : Int) ≤ s.size := by omega
    have ge1 : (s.toList == []) = false := by rw [ByteArray.toList_eq]; simp only [beq_eq_false_iff_ne]; exact fun e => hl (ByteArray.ext (Array.ext' e))
    rcases numV_cases (s.extract 1 s.size) with xs | ⟨m, hm, xs, -⟩
    · have HV := Lib.hid (ranX_none xs)
      have HN := Lib.hid (numOr_neg xs)
      have HB := Lib.hid (fun w => belowOf_any c 0 (by decide) w)
      obtain ⟨r, hr⟩ : ∃ r : Int, (belowN c.toNat 0 : Int) = r := ⟨_, rfl⟩
      rw [hr] at HB
      clear xs hr
      go_enter Tryd.func20, Tryd.ntmps20
      go_wp2_with fail
      refine (versionNumber_v (s.extract 1 s.size) (by omega) _ HW.out).mono ?_
      rintro e w1 ⟨rfl, hb1⟩
      rw [HN.out.1, HN.out.2]
      obtain ⟨B1, bA⟩ := box1 (cA := [_, _]) hb1
      have k1 := bA.cell
      have k2 := bA.frozen
      clear hb1
      go_wp2_with (go_at_call 38; refine (HB.out _).mono ?_; rintro e w2 ⟨rfl, rfl⟩)
      refine bodyPost_ret (v := .tuple #[.agg #[.int .i64 0, .int .i64 0], .int .i64 6]) (by simp [results, Tryd.results20, go_sem, k1]) rfl ⟨by rw [HV.out, retRan_mk], ?_⟩
      repeat (refine Below.setCell ?_ (by simp <;> omega) _)
      exact B1
    · have HN := Lib.hid (numOr_pos xs)
      have HB := Lib.hid (fun w => belowOf_any c m hm w)
      by_cases h0 : belowN c.toNat m = 0
      · have HV := Lib.hid (ranX_zero xs (by rw [hc2]; exact h0))
        rw [h0] at HB
        clear xs h0
        go_enter Tryd.func20, Tryd.ntmps20
        go_wp2_with fail
        refine (versionNumber_v (s.extract 1 s.size) (by omega) _ HW.out).mono ?_
        rintro e w1 ⟨rfl, hb1⟩
        rw [HN.out.1, HN.out.2]
        obtain ⟨B1, bA⟩ := box1 (cA := [_, _]) hb1
        have k1 := bA.cell
        have k2 := bA.frozen
        clear hb1
        go_wp2_with (go_at_call 38; refine (HB.out _).mono ?_; rintro e w2 ⟨rfl, rfl⟩)
        refine bodyPost_ret (v := .tuple #[.agg #[.int .i64 0, .int .i64 0], .int .i64 6]) (by simp [results, Tryd.results20, go_sem, k1]) rfl ⟨by rw [HV.out, retRan_mk], ?_⟩
        repeat (refine Below.setCell ?_ (by simp <;> omega) _)
        exact B1
      · have HV := Lib.hid (ranX_some hl0 xs (by rw [hc2]; exact h0))
        rw [hc2] at HV
        obtain ⟨r, hr⟩ : ∃ r : Int, (belowN c.toNat m : Int) = r := ⟨_, rfl⟩
        have g1 : (r == 0) = false := by rw [← hr]; simp; omega
        have g2 : ¬ r = 0 := by omega
        rw [hr] at HB HV
        clear xs h0 hr
        go_enter Tryd.func20, Tryd.ntmps20
        go_wp2_with fail
        refine (versionNumber_v (s.extract 1 s.size) (by omega) _ HW.out).mono ?_
        rintro e w1 ⟨rfl, hb1⟩
        rw [HN.out.1, HN.out.2]
        obtain ⟨B1, bA⟩ := box1 (cA := [_, _]) hb1
        have k1 := bA.cell
        have k2 := bA.frozen
        clear hb1
        go_wp2_with (go_at_call 38; refine (HB.out _).mono ?_; rintro e w2 ⟨rfl, rfl⟩)
        refine bodyPost_ret (v := .tuple #[.agg #[.int .i64 m, .int .i64 r], .int .i64 0]) (by simp [results, Tryd.results20, go_sem, k1]) rfl ⟨by rw [HV.out, retRan_mk], ?_⟩
        repeat (refine Below.setCell ?_ (by simp <;> omega) _)
        exact B1
end Go.Proofs.YtadngjalhekmlaaDoor
