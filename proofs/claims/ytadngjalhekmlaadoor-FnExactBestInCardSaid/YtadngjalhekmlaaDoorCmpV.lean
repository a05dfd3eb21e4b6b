/- CompareVersions: by the reference and by the program. -/
import Derived.Test.YtadngjalhekmlaaDoorVs
namespace Go.Proofs.YtadngjalhekmlaaDoor
open Go.RowKit Go.Shelf

/-- The code of a text that is no version. -/
def errVersion : Int := 14
def cmpV (a b : ByteArray) : Int × Int := if numV a < 0 ∨ numV b < 0 then (0, errVersion) else if numV a < numV b then (-1, 0) else if numV b < numV a then (1, 0) else (0, 0)
def cmpI (x y : Int) : Int := if x < y then -1 else if y < x then 1 else 0
theorem isNaN64 (x : Int) (w : World) : Calls Tryd.prog 52 #[.int .i64 x] w fun e w' => e = .returned (.bool false) ∧ w = w' := by
  have g : (x != x) = false := by simp
  go_enter Tryd.func52, Tryd.ntmps52
  go_wp2
  go_ret
  exact ⟨rfl, rfl⟩
theorem cmp64 (x y : Int) (w : World) : Calls Tryd.prog 36 #[.int .i64 x, .int .i64 y] w fun e w' => e = .returned (.int .i64 (cmpI x y)) ∧ w = w' := by
  rcases Int.lt_trichotomy x y with h | h | h
  · have HV := Lib.hid (show cmpI x y = -1 by unfold cmpI; rw [if_pos h])
    go_enter Tryd.func36, Tryd.ntmps36
    go_wp2_with (go_at_call 52; refine (isNaN64 _ _).mono ?_; rintro e w1 ⟨rfl, rfl⟩)
    exact bodyPost_ret (v := .int .i64 (-1)) (by simp [results, Tryd.results36, go_sem]) rfl ⟨by rw [HV.out], rfl⟩
  · have HV := Lib.hid (show cmpI x y = 0 by unfold cmpI; rw [if_neg (by omega), if_neg (by omega)])
    have h1 : ¬ x < y := by omega
    have h2 : ¬ y < x := by omega
    clear h
    go_enter Tryd.func36, Tryd.ntmps36
    go_wp2_with (go_at_call 52; refine (isNaN64 _ _).mono ?_; rintro e w1 ⟨rfl, rfl⟩)
    exact bodyPost_ret (v := .int .i64 0) (by simp [results, Tryd.results36, go_sem]) rfl ⟨by rw [HV.out], rfl⟩
  · have HV := Lib.hid (show cmpI x y = 1 by unfold cmpI; rw [if_neg (by omega), if_pos h])
    have h1 : ¬ x < y := by omega
    go_enter Tryd.func36, Tryd.ntmps36
    go_wp2_with (go_at_call 52; refine (isNaN64 _ _).mono ?_; rintro e w1 ⟨rfl, rfl⟩)
    exact bodyPost_ret (v := .int .i64 1) (by simp [results, Tryd.results36, go_sem]) rfl ⟨by rw [HV.out], rfl⟩
set_option maxHeartbeats 1000000 in
set_option maxRecDepth 20000 in
theorem compare_s (a b : ByteArray) (ha : a.size ≤ 9223372036854775807) (hb : b.size ≤ 9223372036854775807) (w : World) : Calls Tryd.prog 17 #[.string a, .string b] w fun e w' => e = .returned (.tuple #[.int .i64 (cmpV a b).1, .int .i64 (cmpV a b).2]) ∧ Below w.heap.size w w' := by
  rcases numV_cases a with xa | ⟨m, hm, xa, -⟩ <;> rcases numV_cases b with xb | ⟨n, hn, xb, -⟩
  · have HA := Lib.hid xa
    have HB := Lib.hid xb
    have HV := Lib.hid (show cmpV a b = (0, errVersion) by unfold cmpV; rw [xa, xb]; exact if_pos (.inl (by decide)))
    clear xa xb
    go_enter Tryd.func17, Tryd.ntmps17
    go_wp2_with fail
    refine (l02Num_v a ha _).mono ?_
    rintro e w1 ⟨rfl, hb1⟩
    rw [HA.out]
    go_wp2_with fail
    refine (l02Num_v b hb _).mono ?_
    rintro e w2 ⟨rfl, hb2⟩
    rw [HB.out]
    have B2 := hb1.trans (hb2.mono hb1.size)
    clear hb1 hb2
    go_wp2
    exact bodyPost_ret (v := .tuple #[.int .i64 (cmpV a b).1, .int .i64 (cmpV a b).2]) (by rw [HV.out]; simp [results, Tryd.results17, go_sem] <;> first | rfl | (unfold cmpI; (repeat' split) <;> omega)) rfl ⟨rfl, B2⟩
  · have HA := Lib.hid xa
    have HB := Lib.hid xb
    have HV := Lib.hid (show cmpV a b = (0, errVersion) by unfold cmpV; rw [xa, xb]; exact if_pos (.inl (by decide)))
    clear xa xb
    go_enter Tryd.func17, Tryd.ntmps17
    go_wp2_with fail
    refine (l02Num_v a ha _).mono ?_
    rintro e w1 ⟨rfl, hb1⟩
    rw [HA.out]
    go_wp2_with fail
    refine (l02Num_v b hb _).mono ?_
    rintro e w2 ⟨rfl, hb2⟩
    rw [HB.out]
    have B2 := hb1.trans (hb2.mono hb1.size)
    clear hb1 hb2
    go_wp2
    exact bodyPost_ret (v := .tuple #[.int .i64 (cmpV a b).1, .int .i64 (cmpV a b).2]) (by rw [HV.out]; simp [results, Tryd.results17, go_sem] <;> first | rfl | (unfold cmpI; (repeat' split) <;> omega)) rfl ⟨rfl, B2⟩
  · have HA := Lib.hid xa
    have HB := Lib.hid xb
    have HV := Lib.hid (show cmpV a b = (0, errVersion) by unfold cmpV; rw [xa, xb]; exact if_pos (.inr (by decide)))
    clear xa xb
    go_enter Tryd.func17, Tryd.ntmps17
    go_wp2_with fail
    refine (l02Num_v a ha _).mono ?_
    rintro e w1 ⟨rfl, hb1⟩
    rw [HA.out]
    go_wp2_with fail
    refine (l02Num_v b hb _).mono ?_
    rintro e w2 ⟨rfl, hb2⟩
    rw [HB.out]
    have B2 := hb1.trans (hb2.mono hb1.size)
    clear hb1 hb2
    go_wp2
    exact bodyPost_ret (v := .tuple #[.int .i64 (cmpV a b).1, .int .i64 (cmpV a b).2]) (by rw [HV.out]; simp [results, Tryd.results17, go_sem] <;> first | rfl | (unfold cmpI; (repeat' split) <;> omega)) rfl ⟨rfl, B2⟩
  · by_cases h1 : (m : Int) < n
    · have h1' : ¬ (n : Int) < m := by omega
      have HA := Lib.hid xa
      have HB := Lib.hid xb
      have HV := Lib.hid (show cmpV a b = (-1, 0) by unfold cmpV; rw [xa, xb, if_neg (by omega), if_pos h1])
      clear xa xb
      go_enter Tryd.func17, Tryd.ntmps17
      go_wp2_with fail
      refine (l02Num_v a ha _).mono ?_
      rintro e w1 ⟨rfl, hb1⟩
      rw [HA.out]
      go_wp2_with fail
      refine (l02Num_v b hb _).mono ?_
      rintro e w2 ⟨rfl, hb2⟩
      rw [HB.out]
      have B2 := hb1.trans (hb2.mono hb1.size)
      clear hb1 hb2
      go_wp2
      exact bodyPost_ret (v := .tuple #[.int .i64 (cmpV a b).1, .int .i64 (cmpV a b).2]) (by rw [HV.out]; simp [results, Tryd.results17, go_sem] <;> first | rfl | (unfold cmpI; (repeat' split) <;> omega)) rfl ⟨rfl, B2⟩
    · by_cases h2 : (n : Int) < m
      · have HA := Lib.hid xa
        have HB := Lib.hid xb
        have HV := Lib.hid (show cmpV a b = (1, 0) by unfold cmpV; rw [xa, xb, if_neg (by omega), if_neg h1, if_pos h2])
        clear xa xb
        go_enter Tryd.func17, Tryd.ntmps17
        go_wp2_with fail
        refine (l02Num_v a ha _).mono ?_
        rintro e w1 ⟨rfl, hb1⟩
        rw [HA.out]
        go_wp2_with fail
        refine (l02Num_v b hb _).mono ?_
        rintro e w2 ⟨rfl, hb2⟩
        rw [HB.out]
        have B2 := hb1.trans (hb2.mono hb1.size)
        clear hb1 hb2
        go_wp2
        exact bodyPost_ret (v := .tuple #[.int .i64 (cmpV a b).1, .int .i64 (cmpV a b).2]) (by rw [HV.out]; simp [results, Tryd.results17, go_sem] <;> first | rfl | (unfold cmpI; (repeat' split) <;> omega)) rfl ⟨rfl, B2⟩
      · have HA := Lib.hid xa
        have HB := Lib.hid xb
        have HV := Lib.hid (show cmpV a b = (0, 0) by unfold cmpV; rw [xa, xb, if_neg (by omega), if_neg h1, if_neg h2])
        clear xa xb
        go_enter Tryd.func17, Tryd.ntmps17
        go_wp2_with fail
        refine (l02Num_v a ha _).mono ?_
        rintro e w1 ⟨rfl, hb1⟩
        rw [HA.out]
        go_wp2_with fail
        refine (l02Num_v b hb _).mono ?_
        rintro e w2 ⟨rfl, hb2⟩
        rw [HB.out]
        have B2 := hb1.trans (hb2.mono hb1.size)
        clear hb1 hb2
        go_wp2
        exact bodyPost_ret (v := .tuple #[.int .i64 (cmpV a b).1, .int .i64 (cmpV a b).2]) (by rw [HV.out]; simp [results, Tryd.results17, go_sem] <;> first | rfl | (unfold cmpI; (repeat' split) <;> omega)) rfl ⟨rfl, B2⟩
set_option maxHeartbeats 1000000 in
set_option maxRecDepth 20000 in
theorem compare_i (a b : ByteArray) (ha : a.size ≤ 1048576) (hb : b.size ≤ 1048576) (w : World) (hv : VerW w) : Calls Tryd.prog 18 #[.string a, .string b] w fun e w' => e = .returned (.tuple #[.int .i64 (cmpV a b).1, .int .i64 (cmpV a b).2]) ∧ Below w.heap.size w w' := by
  have HW := Lib.hid hv
  clear hv
  rcases numV_cases a with xa | ⟨m, hm, xa, -⟩ <;> rcases numV_cases b with xb | ⟨n, hn, xb, -⟩
  · have HA := Lib.hid (numOr_neg xa)
    have HB := Lib.hid (numOr_neg xb)
    have HV := Lib.hid (show cmpV a b = (0, errVersion) by unfold cmpV; rw [xa, xb]; exact if_pos (.inl (by decide)))
    clear xa xb
    go_enter Tryd.func18, Tryd.ntmps18
    go_wp2_with fail
    refine (versionNumber_v a ha _ HW.out).mono ?_
    rintro e w1 ⟨rfl, hb1⟩
    rw [HA.out.1, HA.out.2]
    go_wp2_with fail
    refine (versionNumber_v b hb _ (HW.out.below hb1)).mono ?_
    rintro e w2 ⟨rfl, hb2⟩
    rw [HB.out.1, HB.out.2]
    have B2 := hb1.trans (hb2.mono hb1.size)
    clear hb1 hb2
    go_wp2_with (go_at_call 36; refine (cmp64 _ _ _).mono ?_; rintro e w3 ⟨rfl, rfl⟩)
    exact bodyPost_ret (v := .tuple #[.int .i64 (cmpV a b).1, .int .i64 (cmpV a b).2]) (by rw [HV.out]; simp [results, Tryd.results18, go_sem] <;> first | rfl | (unfold cmpI; (repeat' split) <;> omega)) rfl ⟨rfl, B2⟩
  · have HA := Lib.hid (numOr_neg xa)
    have HB := Lib.hid (numOr_pos xb)
    have HV := Lib.hid (show cmpV a b = (0, errVersion) by unfold cmpV; rw [xa, xb]; exact if_pos (.inl (by decide)))
    clear xa xb
    go_enter Tryd.func18, Tryd.ntmps18
    go_wp2_with fail
    refine (versionNumber_v a ha _ HW.out).mono ?_
    rintro e w1 ⟨rfl, hb1⟩
    rw [HA.out.1, HA.out.2]
    go_wp2_with fail
    refine (versionNumber_v b hb _ (HW.out.below hb1)).mono ?_
    rintro e w2 ⟨rfl, hb2⟩
    rw [HB.out.1, HB.out.2]
    have B2 := hb1.trans (hb2.mono hb1.size)
    clear hb1 hb2
    go_wp2_with (go_at_call 36; refine (cmp64 _ _ _).mono ?_; rintro e w3 ⟨rfl, rfl⟩)
    exact bodyPost_ret (v := .tuple #[.int .i64 (cmpV a b).1, .int .i64 (cmpV a b).2]) (by rw [HV.out]; simp [results, Tryd.results18, go_sem] <;> first | rfl | (unfold cmpI; (repeat' split) <;> omega)) rfl ⟨rfl, B2⟩
  · have HA := Lib.hid (numOr_pos xa)
    have HB := Lib.hid (numOr_neg xb)
    have HV := Lib.hid (show cmpV a b = (0, errVersion) by unfold cmpV; rw [xa, xb]; exact if_pos (.inr (by decide)))
    clear xa xb
    go_enter Tryd.func18, Tryd.ntmps18
    go_wp2_with fail
    refine (versionNumber_v a ha _ HW.out).mono ?_
    rintro e w1 ⟨rfl, hb1⟩
    rw [HA.out.1, HA.out.2]
    go_wp2_with fail
    refine (versionNumber_v b hb _ (HW.out.below hb1)).mono ?_
    rintro e w2 ⟨rfl, hb2⟩
    rw [HB.out.1, HB.out.2]
    have B2 := hb1.trans (hb2.mono hb1.size)
    clear hb1 hb2
    go_wp2_with (go_at_call 36; refine (cmp64 _ _ _).mono ?_; rintro e w3 ⟨rfl, rfl⟩)
    exact bodyPost_ret (v := .tuple #[.int .i64 (cmpV a b).1, .int .i64 (cmpV a b).2]) (by rw [HV.out]; simp [results, Tryd.results18, go_sem] <;> first | rfl | (unfold cmpI; (repeat' split) <;> omega)) rfl ⟨rfl, B2⟩
  · by_cases h1 : (m : Int) < n
    · have h1' : ¬ (n : Int) < m := by omega
      have HA := Lib.hid (numOr_pos xa)
      have HB := Lib.hid (numOr_pos xb)
      have HV := Lib.hid (show cmpV a b = (-1, 0) by unfold cmpV; rw [xa, xb, if_neg (by omega), if_pos h1])
      clear xa xb
      go_enter Tryd.func18, Tryd.ntmps18
      go_wp2_with fail
      refine (versionNumber_v a ha _ HW.out).mono ?_
      rintro e w1 ⟨rfl, hb1⟩
      rw [HA.out.1, HA.out.2]
      go_wp2_with fail
      refine (versionNumber_v b hb _ (HW.out.below hb1)).mono ?_
      rintro e w2 ⟨rfl, hb2⟩
      rw [HB.out.1, HB.out.2]
      have B2 := hb1.trans (hb2.mono hb1.size)
      clear hb1 hb2
      go_wp2_with (go_at_call 36; refine (cmp64 _ _ _).mono ?_; rintro e w3 ⟨rfl, rfl⟩)
      exact bodyPost_ret (v := .tuple #[.int .i64 (cmpV a b).1, .int .i64 (cmpV a b).2]) (by rw [HV.out]; simp [results, Tryd.results18, go_sem] <;> first | rfl | (unfold cmpI; (repeat' split) <;> omega)) rfl ⟨rfl, B2⟩
    · by_cases h2 : (n : Int) < m
      · have HA := Lib.hid (numOr_pos xa)
        have HB := Lib.hid (numOr_pos xb)
        have HV := Lib.hid (show cmpV a b = (1, 0) by unfold cmpV; rw [xa, xb, if_neg (by omega), if_neg h1, if_pos h2])
        clear xa xb
        go_enter Tryd.func18, Tryd.ntmps18
        go_wp2_with fail
        refine (versionNumber_v a ha _ HW.out).mono ?_
        rintro e w1 ⟨rfl, hb1⟩
        rw [HA.out.1, HA.out.2]
        go_wp2_with fail
        refine (versionNumber_v b hb _ (HW.out.below hb1)).mono ?_
        rintro e w2 ⟨rfl, hb2⟩
        rw [HB.out.1, HB.out.2]
        have B2 := hb1.trans (hb2.mono hb1.size)
        clear hb1 hb2
        go_wp2_with (go_at_call 36; refine (cmp64 _ _ _).mono ?_; rintro e w3 ⟨rfl, rfl⟩)
        exact bodyPost_ret (v := .tuple #[.int .i64 (cmpV a b).1, .int .i64 (cmpV a b).2]) (by rw [HV.out]; simp [results, Tryd.results18, go_sem] <;> first | rfl | (unfold cmpI; (repeat' split) <;> omega)) rfl ⟨rfl, B2⟩
      · have HA := Lib.hid (numOr_pos xa)
        have HB := Lib.hid (numOr_pos xb)
        have HV := Lib.hid (show cmpV a b = (0, 0) by unfold cmpV; rw [xa, xb, if_neg (by omega), if_neg h1, if_neg h2])
        clear xa xb
        go_enter Tryd.func18, Tryd.ntmps18
        go_wp2_with fail
        refine (versionNumber_v a ha _ HW.out).mono ?_
        rintro e w1 ⟨rfl, hb1⟩
        rw [HA.out.1, HA.out.2]
        go_wp2_with fail
        refine (versionNumber_v b hb _ (HW.out.below hb1)).mono ?_
        rintro e w2 ⟨rfl, hb2⟩
        rw [HB.out.1, HB.out.2]
        have B2 := hb1.trans (hb2.mono hb1.size)
        clear hb1 hb2
        go_wp2_with (go_at_call 36; refine (cmp64 _ _ _).mono ?_; rintro e w3 ⟨rfl, rfl⟩)
        exact bodyPost_ret (v := .tuple #[.int .i64 (cmpV a b).1, .int .i64 (cmpV a b).2]) (by rw [HV.out]; simp [results, Tryd.results18, go_sem] <;> first | rfl | (unfold cmpI; (repeat' split) <;> omega)) rfl ⟨rfl, B2⟩
end Go.Proofs.YtadngjalhekmlaaDoor
