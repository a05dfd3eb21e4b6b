/- Serves: by the reference and by the program. -/
import Derived.Test.YtadngjalhekmlaaDoorVs
namespace Go.Proofs.YtadngjalhekmlaaDoor
open Go.RowKit Go.Shelf

def servB (x y : Int) : Bool := if x < 0 ∨ y < 0 ∨ x < y ∨ (x / 1000000 == y / 1000000) = false then false else decide (1000000 ≤ x) || (x / 1000 == y / 1000)
def servs (a b : ByteArray) : Bool := servB (numV a) (numV b)
set_option maxHeartbeats 1000000 in
set_option maxRecDepth 20000 in
theorem serves_s (a b : ByteArray) (ha : a.size ≤ 9223372036854775807) (hb : b.size ≤ 9223372036854775807) (w : World) : Calls Tryd.prog 12 #[.string a, .string b] w fun e w' => e = .returned (.bool (servs a b)) ∧ Below w.heap.size w w' := by
  rcases numV_cases a with xa | ⟨m, hm, xa, -⟩ <;> rcases numV_cases b with xb | ⟨n, hn, xb, -⟩
  · have HA := Lib.hid xa
    have HB := Lib.hid xb
    have HV := Lib.hid (show servs a b = false by unfold servs servB; rw [xa, xb]; rfl)
    clear xa xb
    go_enter Tryd.func12, Tryd.ntmps12
    go_wp2_with fail
    refine (l02Num_v a ha _).mono ?_
    rintro e w1 ⟨rfl, hb1⟩
    rw [HA.out]
    go_wp2_with fail
    refine (l02Num_v b hb _).mono ?_
    rintro e w2 ⟨rfl, hb2⟩
    rw [HB.out]
    have B2 := hb1.trans (hb2.mono hb1.size)
    clear hb1 hb2
    go_wp2
    exact bodyPost_ret (v := .bool (servs a b)) (by rw [HV.out]; simp [results, Tryd.results12, go_sem] <;> assumption) rfl ⟨rfl, B2⟩
  · have HA := Lib.hid xa
    have HB := Lib.hid xb
    have HV := Lib.hid (show servs a b = false by unfold servs servB; rw [xa, xb]; exact if_pos (.inl (by decide)))
    clear xa xb
    go_enter Tryd.func12, Tryd.ntmps12
    go_wp2_with fail
    refine (l02Num_v a ha _).mono ?_
    rintro e w1 ⟨rfl, hb1⟩
    rw [HA.out]
    go_wp2_with fail
    refine (l02Num_v b hb _).mono ?_
    rintro e w2 ⟨rfl, hb2⟩
    rw [HB.out]
    have B2 := hb1.trans (hb2.mono hb1.size)
    clear hb1 hb2
    go_wp2
    exact bodyPost_ret (v := .bool (servs a b)) (by rw [HV.out]; simp [results, Tryd.results12, go_sem] <;> assumption) rfl ⟨rfl, B2⟩
  · have HA := Lib.hid xa
    have HB := Lib.hid xb
    have HV := Lib.hid (show servs a b = false by unfold servs servB; rw [xa, xb]; exact if_pos (.inr (.inl (by decide))))
    clear xa xb
    go_enter Tryd.func12, Tryd.ntmps12
    go_wp2_with fail
    refine (l02Num_v a ha _).mono ?_
    rintro e w1 ⟨rfl, hb1⟩
    rw [HA.out]
    go_wp2_with fail
    refine (l02Num_v b hb _).mono ?_
    rintro e w2 ⟨rfl, hb2⟩
    rw [HB.out]
    have B2 := hb1.trans (hb2.mono hb1.size)
    clear hb1 hb2
    go_wp2
    exact bodyPost_ret (v := .bool (servs a b)) (by rw [HV.out]; simp [results, Tryd.results12, go_sem] <;> assumption) rfl ⟨rfl, B2⟩
  · by_cases h1 : (m : Int) < n
    · have HA := Lib.hid xa
      have HB := Lib.hid xb
      have HV := Lib.hid (show servs a b = false by unfold servs servB; rw [xa, xb]; exact if_pos (.inr (.inr (.inl h1))))
      clear xa xb
      go_enter Tryd.func12, Tryd.ntmps12
      go_wp2_with fail
      refine (l02Num_v a ha _).mono ?_
      rintro e w1 ⟨rfl, hb1⟩
      rw [HA.out]
      go_wp2_with fail
      refine (l02Num_v b hb _).mono ?_
      rintro e w2 ⟨rfl, hb2⟩
      rw [HB.out]
      have B2 := hb1.trans (hb2.mono hb1.size)
      clear hb1 hb2
      go_wp2
      exact bodyPost_ret (v := .bool (servs a b)) (by rw [HV.out]; simp [results, Tryd.results12, go_sem] <;> assumption) rfl ⟨rfl, B2⟩
    · by_cases h2 : (m : Int) / 1000000 = n / 1000000
      · have g1 : ((m : Int) / 1000000 == (n : Int) / 1000000) = true := by simp [h2]
        have g2 : ((m : Int) / 1000000 != (n : Int) / 1000000) = false := by simp [h2]
        have hs : servs a b = (decide (1000000 ≤ (m : Int)) || ((m : Int) / 1000 == (n : Int) / 1000)) := by unfold servs servB; rw [xa, xb]; exact if_neg (by rw [g1]; simp; omega)
        by_cases h3 : (1000000 : Int) ≤ m
        · have HA := Lib.hid xa
          have HB := Lib.hid xb
          have HV := Lib.hid (show servs a b = true by rw [hs]; simp [h3])
          clear xa xb h2 hs
          go_enter Tryd.func12, Tryd.ntmps12
          go_wp2_with fail
          refine (l02Num_v a ha _).mono ?_
          rintro e w1 ⟨rfl, hb1⟩
          rw [HA.out]
          go_wp2_with fail
          refine (l02Num_v b hb _).mono ?_
          rintro e w2 ⟨rfl, hb2⟩
          rw [HB.out]
          have B2 := hb1.trans (hb2.mono hb1.size)
          clear hb1 hb2
          go_wp2
          exact bodyPost_ret (v := .bool (servs a b)) (by rw [HV.out]; simp [results, Tryd.results12, go_sem] <;> assumption) rfl ⟨rfl, B2⟩
        · have h3' : (m : Int) < 1000000 := by omega
          by_cases h4 : (m : Int) / 1000 = n / 1000
          · have g3 : ((m : Int) / 1000 == (n : Int) / 1000) = true := by simp [h4]
            have HA := Lib.hid xa
            have HB := Lib.hid xb
            have HV := Lib.hid (show servs a b = true by rw [hs]; simp [h4])
            have H3 := Lib.hid (And.intro h3' g3)
            clear xa xb h2 hs h4 h3 h3' g3
            go_enter Tryd.func12, Tryd.ntmps12
            go_wp2_with fail
            refine (l02Num_v a ha _).mono ?_
            rintro e w1 ⟨rfl, hb1⟩
            rw [HA.out]
            go_wp2_with fail
            refine (l02Num_v b hb _).mono ?_
            rintro e w2 ⟨rfl, hb2⟩
            rw [HB.out]
            have B2 := hb1.trans (hb2.mono hb1.size)
            clear hb1 hb2
            go_upto_region 4 with fail
            clear g1 g2
            have h3 := H3.out.1
            have g3 := H3.out.2
            go_wp2
            exact bodyPost_ret (v := .bool (servs a b)) (by rw [HV.out]; simp [results, Tryd.results12, go_sem] <;> assumption) rfl ⟨rfl, B2⟩
          · have g3 : ((m : Int) / 1000 == (n : Int) / 1000) = false := by simp [h4]
            have HA := Lib.hid xa
            have HB := Lib.hid xb
            have HV := Lib.hid (show servs a b = false by rw [hs, g3]; simp; omega)
            have H3 := Lib.hid (And.intro h3' g3)
            clear xa xb h2 hs h4 h3 h3' g3
            go_enter Tryd.func12, Tryd.ntmps12
            go_wp2_with fail
            refine (l02Num_v a ha _).mono ?_
            rintro e w1 ⟨rfl, hb1⟩
            rw [HA.out]
            go_wp2_with fail
            refine (l02Num_v b hb _).mono ?_
            rintro e w2 ⟨rfl, hb2⟩
            rw [HB.out]
            have B2 := hb1.trans (hb2.mono hb1.size)
            clear hb1 hb2
            go_upto_region 4 with fail
            clear g1 g2
            have h3 := H3.out.1
            have g3 := H3.out.2
            go_wp2
            exact bodyPost_ret (v := .bool (servs a b)) (by rw [HV.out]; simp [results, Tryd.results12, go_sem] <;> assumption) rfl ⟨rfl, B2⟩
      · have g1 : ((m : Int) / 1000000 == (n : Int) / 1000000) = false := by simp [h2]
        have g2 : ((m : Int) / 1000000 != (n : Int) / 1000000) = true := by simp [h2]
        have HA := Lib.hid xa
        have HB := Lib.hid xb
        have HV := Lib.hid (show servs a b = false by unfold servs servB; rw [xa, xb]; exact if_pos (by rw [g1]; simp))
        clear xa xb h2
        go_enter Tryd.func12, Tryd.ntmps12
        go_wp2_with fail
        refine (l02Num_v a ha _).mono ?_
        rintro e w1 ⟨rfl, hb1⟩
        rw [HA.out]
        go_wp2_with fail
        refine (l02Num_v b hb _).mono ?_
        rintro e w2 ⟨rfl, hb2⟩
        rw [HB.out]
        have B2 := hb1.trans (hb2.mono hb1.size)
        clear hb1 hb2
        go_wp2
        exact bodyPost_ret (v := .bool (servs a b)) (by rw [HV.out]; simp [results, Tryd.results12, go_sem] <;> assumption) rfl ⟨rfl, B2⟩
set_option maxHeartbeats 1000000 in
set_option maxRecDepth 20000 in
theorem serves_i (a b : ByteArray) (ha : a.size ≤ 1048576) (hb : b.size ≤ 1048576) (w : World) (hv : VerW w) : Calls Tryd.prog 13 #[.string a, .string b] w fun e w' => e = .returned (.bool (servs a b)) ∧ Below w.heap.size w w' := by
  have HW := Lib.hid hv
  clear hv
  rcases numV_cases a with xa | ⟨m, hm, xa, -⟩ <;> rcases numV_cases b with xb | ⟨n, hn, xb, -⟩
  · have HA := Lib.hid (numOr_neg xa)
    have HB := Lib.hid (numOr_neg xb)
    have HV := Lib.hid (show servs a b = false by unfold servs servB; rw [xa, xb]; rfl)
    clear xa xb
    go_enter Tryd.func13, Tryd.ntmps13
    go_wp2_with fail
    refine (versionNumber_v a ha _ HW.out).mono ?_
    rintro e w1 ⟨rfl, hb1⟩
    rw [HA.out.1, HA.out.2]
    go_wp2_with fail
    refine (versionNumber_v b hb _ (HW.out.below hb1)).mono ?_
    rintro e w2 ⟨rfl, hb2⟩
    rw [HB.out.1, HB.out.2]
    have B2 := hb1.trans (hb2.mono hb1.size)
    clear hb1 hb2
    go_wp2
    exact bodyPost_ret (v := .bool (servs a b)) (by rw [HV.out]; simp [results, Tryd.results13, go_sem] <;> assumption) rfl ⟨rfl, B2⟩
  · have HA := Lib.hid (numOr_neg xa)
    have HB := Lib.hid (numOr_pos xb)
    have HV := Lib.hid (show servs a b = false by unfold servs servB; rw [xa, xb]; exact if_pos (.inl (by decide)))
    clear xa xb
    go_enter Tryd.func13, Tryd.ntmps13
    go_wp2_with fail
    refine (versionNumber_v a ha _ HW.out).mono ?_
    rintro e w1 ⟨rfl, hb1⟩
    rw [HA.out.1, HA.out.2]
    go_wp2_with fail
    refine (versionNumber_v b hb _ (HW.out.below hb1)).mono ?_
    rintro e w2 ⟨rfl, hb2⟩
    rw [HB.out.1, HB.out.2]
    have B2 := hb1.trans (hb2.mono hb1.size)
    clear hb1 hb2
    go_wp2
    exact bodyPost_ret (v := .bool (servs a b)) (by rw [HV.out]; simp [results, Tryd.results13, go_sem] <;> assumption) rfl ⟨rfl, B2⟩
  · have HA := Lib.hid (numOr_pos xa)
    have HB := Lib.hid (numOr_neg xb)
    have HV := Lib.hid (show servs a b = false by unfold servs servB; rw [xa, xb]; exact if_pos (.inr (.inl (by decide))))
    clear xa xb
    go_enter Tryd.func13, Tryd.ntmps13
    go_wp2_with fail
    refine (versionNumber_v a ha _ HW.out).mono ?_
    rintro e w1 ⟨rfl, hb1⟩
    rw [HA.out.1, HA.out.2]
    go_wp2_with fail
    refine (versionNumber_v b hb _ (HW.out.below hb1)).mono ?_
    rintro e w2 ⟨rfl, hb2⟩
    rw [HB.out.1, HB.out.2]
    have B2 := hb1.trans (hb2.mono hb1.size)
    clear hb1 hb2
    go_wp2
    exact bodyPost_ret (v := .bool (servs a b)) (by rw [HV.out]; simp [results, Tryd.results13, go_sem] <;> assumption) rfl ⟨rfl, B2⟩
  · by_cases h1 : (m : Int) < n
    · have HA := Lib.hid (numOr_pos xa)
      have HB := Lib.hid (numOr_pos xb)
      have HV := Lib.hid (show servs a b = false by unfold servs servB; rw [xa, xb]; exact if_pos (.inr (.inr (.inl h1))))
      clear xa xb
      go_enter Tryd.func13, Tryd.ntmps13
      go_wp2_with fail
      refine (versionNumber_v a ha _ HW.out).mono ?_
      rintro e w1 ⟨rfl, hb1⟩
      rw [HA.out.1, HA.out.2]
      go_wp2_with fail
      refine (versionNumber_v b hb _ (HW.out.below hb1)).mono ?_
      rintro e w2 ⟨rfl, hb2⟩
      rw [HB.out.1, HB.out.2]
      have B2 := hb1.trans (hb2.mono hb1.size)
      clear hb1 hb2
      go_wp2
      exact bodyPost_ret (v := .bool (servs a b)) (by rw [HV.out]; simp [results, Tryd.results13, go_sem] <;> assumption) rfl ⟨rfl, B2⟩
    · by_cases h2 : (m : Int) / 1000000 = n / 1000000
      · have g1 : ((m : Int) / 1000000 == (n : Int) / 1000000) = true := by simp [h2]
        have g2 : ((m : Int) / 1000000 != (n : Int) / 1000000) = false := by simp [h2]
        have hs : servs a b = (decide (1000000 ≤ (m : Int)) || ((m : Int) / 1000 == (n : Int) / 1000)) := by unfold servs servB; rw [xa, xb]; exact if_neg (by rw [g1]; simp; omega)
        by_cases h3 : (1000000 : Int) ≤ m
        · have HA := Lib.hid (numOr_pos xa)
          have HB := Lib.hid (numOr_pos xb)
          have HV := Lib.hid (show servs a b = true by rw [hs]; simp [h3])
          clear xa xb h2 hs
          go_enter Tryd.func13, Tryd.ntmps13
          go_wp2_with fail
          refine (versionNumber_v a ha _ HW.out).mono ?_
          rintro e w1 ⟨rfl, hb1⟩
          rw [HA.out.1, HA.out.2]
          go_wp2_with fail
          refine (versionNumber_v b hb _ (HW.out.below hb1)).mono ?_
          rintro e w2 ⟨rfl, hb2⟩
          rw [HB.out.1, HB.out.2]
          have B2 := hb1.trans (hb2.mono hb1.size)
          clear hb1 hb2
          go_wp2
          exact bodyPost_ret (v := .bool (servs a b)) (by rw [HV.out]; simp [results, Tryd.results13, go_sem] <;> assumption) rfl ⟨rfl, B2⟩
        · have h3' : (m : Int) < 1000000 := by omega
          by_cases h4 : (m : Int) / 1000 = n / 1000
          · have g3 : ((m : Int) / 1000 == (n : Int) / 1000) = true := by simp [h4]
            have HA := Lib.hid (numOr_pos xa)
            have HB := Lib.hid (numOr_pos xb)
            have HV := Lib.hid (show servs a b = true by rw [hs]; simp [h4])
            have H3 := Lib.hid (And.intro h3' g3)
            clear xa xb h2 hs h4 h3 h3' g3
            go_enter Tryd.func13, Tryd.ntmps13
            go_wp2_with fail
            refine (versionNumber_v a ha _ HW.out).mono ?_
            rintro e w1 ⟨rfl, hb1⟩
            rw [HA.out.1, HA.out.2]
            go_wp2_with fail
            refine (versionNumber_v b hb _ (HW.out.below hb1)).mono ?_
            rintro e w2 ⟨rfl, hb2⟩
            rw [HB.out.1, HB.out.2]
            have B2 := hb1.trans (hb2.mono hb1.size)
            clear hb1 hb2
            go_upto_region 5 with fail
            clear g1 g2
            have h3 := H3.out.1
            have g3 := H3.out.2
            go_wp2
            exact bodyPost_ret (v := .bool (servs a b)) (by rw [HV.out]; simp [results, Tryd.results13, go_sem] <;> assumption) rfl ⟨rfl, B2⟩
          · have g3 : ((m : Int) / 1000 == (n : Int) / 1000) = false := by simp [h4]
            have HA := Lib.hid (numOr_pos xa)
            have HB := Lib.hid (numOr_pos xb)
            have HV := Lib.hid (show servs a b = false by rw [hs, g3]; simp; omega)
            have H3 := Lib.hid (And.intro h3' g3)
            clear xa xb h2 hs h4 h3 h3' g3
            go_enter Tryd.func13, Tryd.ntmps13
            go_wp2_with fail
            refine (versionNumber_v a ha _ HW.out).mono ?_
            rintro e w1 ⟨rfl, hb1⟩
            rw [HA.out.1, HA.out.2]
            go_wp2_with fail
            refine (versionNumber_v b hb _ (HW.out.below hb1)).mono ?_
            rintro e w2 ⟨rfl, hb2⟩
            rw [HB.out.1, HB.out.2]
            have B2 := hb1.trans (hb2.mono hb1.size)
            clear hb1 hb2
            go_upto_region 5 with fail
            clear g1 g2
            have h3 := H3.out.1
            have g3 := H3.out.2
            go_wp2
            exact bodyPost_ret (v := .bool (servs a b)) (by rw [HV.out]; simp [results, Tryd.results13, go_sem] <;> assumption) rfl ⟨rfl, B2⟩
      · have g1 : ((m : Int) / 1000000 == (n : Int) / 1000000) = false := by simp [h2]
        have g2 : ((m : Int) / 1000000 != (n : Int) / 1000000) = true := by simp [h2]
        have HA := Lib.hid (numOr_pos xa)
        have HB := Lib.hid (numOr_pos xb)
        have HV := Lib.hid (show servs a b = false by unfold servs servB; rw [xa, xb]; exact if_pos (by rw [g1]; simp))
        clear xa xb h2
        go_enter Tryd.func13, Tryd.ntmps13
        go_wp2_with fail
        refine (versionNumber_v a ha _ HW.out).mono ?_
        rintro e w1 ⟨rfl, hb1⟩
        rw [HA.out.1, HA.out.2]
        go_wp2_with fail
        refine (versionNumber_v b hb _ (HW.out.below hb1)).mono ?_
        rintro e w2 ⟨rfl, hb2⟩
        rw [HB.out.1, HB.out.2]
        have B2 := hb1.trans (hb2.mono hb1.size)
        clear hb1 hb2
        go_wp2
        exact bodyPost_ret (v := .bool (servs a b)) (by rw [HV.out]; simp [results, Tryd.results13, go_sem] <;> assumption) rfl ⟨rfl, B2⟩
end Go.Proofs.YtadngjalhekmlaaDoor
