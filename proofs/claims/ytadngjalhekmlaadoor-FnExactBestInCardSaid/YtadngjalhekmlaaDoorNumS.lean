/- The number of a version: the reference's walk. -/
import Derived.Test.YtadngjalhekmlaaDoorNumP
import Derived.BigQuiet
namespace Go.Proofs.YtadngjalhekmlaaDoor
open Go.RowKit Go.PlainAid

theorem bt_list (s : ByteArray) (i : Nat) (h : i < s.size) : ∃ c : UInt8, s.data.toList[i]? = some c ∧ bt s i = (c.toNat : Int) := by
  have h' : i < s.data.size := h
  refine ⟨s.data[i], by rw [Array.getElem?_toList, Array.getElem?_eq_getElem h'], ?_⟩
  unfold bt
  rw [dif_pos h]
  rfl
theorem stV_next {l : List UInt8} {i : Nat} {c : UInt8} {x : Option (Int × Nat × Nat)} (h : stV (l.take i) = x) (hc : l[i]? = some c) : stV (l.take (i + 1)) = stepV x c := by
  rw [List.take_add_one, hc, stV, List.foldl_append, ← h]
  rfl
theorem stV_bad {l : List UInt8} {i : Nat} (h : stV (l.take i) = none) : stV l = none := by
  rw [← List.take_append_drop i l, stV, List.foldl_append]
  show List.foldl stepV (stV (l.take i)) _ = none
  rw [h, step_none]
theorem pow_next {p i k : Nat} (h : p < 10 ^ i) (hk : k ≤ 9) : 10 * p + k < 10 ^ (i + 1) := by
  rw [Nat.pow_succ]; omega
theorem pow12 {p i : Nat} (h : p < 10 ^ i) (hi : i ≤ 12) : p < 1000000000000 := Nat.lt_of_lt_of_le h (Nat.pow_le_pow_right (by decide) hi : 10 ^ i ≤ 10 ^ 12)
/-- No version, for the reading at the end of the loop says so. -/
theorem num_no {s : ByteArray} {i : Nat} {t : Int} {p d : Nat} (hi : i = s.size ∨ i = 12) (hl : i ≤ s.size) (h : stV (s.data.toList.take i) = some (t, p, d))
    (hno : ∀ m : Nat, m ≤ 999999999 → s = verT m → d = 2 → p ≤ 999 → wrap64 (t + p) = (m : Int) → False) : IsNum s (-1) := by
  refine .inl ⟨rfl, fun m hm hs => ?_⟩
  have hsz := ver_size m hm
  rw [← hs] at hsz
  obtain rfl : i = s.size := by omega
  have hx : s.data.toList.take s.size = s.data.toList := List.take_of_length_le (by rw [← Lib.size_eq]; exact Nat.le_refl _)
  have h1 := stV_ver m hm
  rw [← hs] at h1
  rw [hx, h1] at h
  simp only [Option.some.injEq, Prod.mk.injEq] at h
  obtain ⟨rfl, rfl, rfl⟩ := h
  exact hno m hm hs rfl (by omega) (by rw [w64 _ (by omega)]; omega)
set_option maxHeartbeats 2000000 in
set_option maxRecDepth 20000 in
theorem l02Num_s (s : ByteArray) (_hs : s.size ≤ 9223372036854775807) (w : World) : Calls Tryd.prog 31 #[.string s] w fun e w' => ∃ r, e = .returned (.int .i64 r) ∧ IsNum s r ∧ Below w.heap.size w w' := by
  have hbt := PlainAid.get_bt s
  go_enter Tryd.func31, Tryd.ntmps31
  go_wp2
  go_loopw [3, 4, 5, 6] (fun t p d i wr => ∃ (T : Int) (P D I : Nat), t = .int .i64 T ∧ p = .int .i64 P ∧ d = .int .i64 D ∧ i = .int .i64 I ∧ stV (s.data.toList.take I) = some (T, P, D) ∧ P < 10 ^ I ∧ D ≤ I ∧ I ≤ 12 ∧ I ≤ s.size ∧ Below w.heap.size w wr)
    (fun _ _ _ i _ => (12 - intOf i).toNat)
  case atStart => exact ⟨0, 0, 0, 0, rfl, rfl, rfl, rfl, rfl, by decide, Nat.le_refl _, by decide, Nat.zero_le _, Below.refl _ _⟩
  case round =>
    obtain ⟨T, P, D, I, rfl, rfl, rfl, rfl, hst, hP, hD, hI, hIs, hb⟩ := hrel
    have HST := Lib.hid hst
    have HP := Lib.hid hP
    have hP2 := pow12 hP hI
    clear hst hP
    by_cases hi : I < s.size ∧ I < 12
    · obtain ⟨hi1, hi2⟩ := hi
      have j1 : (I : Int) < (s.size : Int) := by omega
      have j2 : (I : Int) < 12 := by omega
      obtain ⟨c, hc, hcb⟩ := bt_list s I hi1
      have HN := Lib.hid (stV_next HST.out hc)
      have hc9 := c.toNat_lt
      clear hc
      by_cases c1 : c.toNat = 46
      · have d1 : bt s I = 46 := by omega
        have HN2 := Lib.hid (show stV (s.data.toList.take (I + 1)) = some (wrap64 (wrap64 (T + P) * 1000), 0, D + 1) by rw [HN.out]; simp [stepV, c1])
        clear hcb
        go_wp2_with fail
        exact ⟨⟨_, 0, D + 1, I + 1, rfl, rfl, by simp, by simp, HN2.out, Nat.pow_pos (by decide), by omega, by omega, by omega, hb⟩, by simp [intOf]; omega⟩
      · by_cases c2 : c.toNat < 48 ∨ 57 < c.toNat
        · have HB := Lib.hid (stV_bad (show stV (s.data.toList.take (I + 1)) = none by rw [HN.out]; simp only [stepV]; rw [if_neg c1, if_pos c2]))
          have HI := Lib.hid (show IsNum s (-1) from .inl ⟨rfl, fun m hm h => by have := stV_ver m hm; rw [← h, HB.out] at this; cases this⟩)
          have e1 : ¬ bt s I = 46 := by omega
          by_cases c3 : c.toNat < 48
          · have e2 : bt s I < 48 := by omega
            clear hcb
            go_wp2
            go_ret
            exact ⟨_, rfl, HI.out, hb⟩
          · have e2 : ¬ bt s I < 48 := by omega
            have e3 : 57 < bt s I := by omega
            clear hcb
            go_wp2
            go_ret
            exact ⟨_, rfl, HI.out, hb⟩
        · have e1 : ¬ bt s I = 46 := by omega
          have e2 : ¬ bt s I < 48 := by omega
          have e3 : ¬ 57 < bt s I := by omega
          have HN2 := Lib.hid (show stV (s.data.toList.take (I + 1)) = some (T, 10 * P + (c.toNat - 48), D) by rw [HN.out]; simp only [stepV]; rw [if_neg c1, if_neg c2])
          have HP2 := Lib.hid (pow_next HP.out (show c.toNat - 48 ≤ 9 by omega))
          have HC := Lib.hid (show ((10 * P + (c.toNat - 48) : Nat) : Int) = 10 * (P : Int) + (bt s I - 48) by omega)
          clear hcb
          go_wp2_with fail
          exact ⟨⟨T, 10 * P + (c.toNat - 48), D, I + 1, rfl, by rw [HC.out], rfl, by simp, HN2.out, HP2.out, by omega, by omega, by omega, hb⟩, by simp [intOf]; omega⟩
    · have hex : I = s.size ∨ I = 12 := by omega
      have hno := Lib.hid (fun h => num_no hex hIs HST.out h)
      have KX : (¬ (I : Int) < (s.size : Int)) ∨ (I : Int) < (s.size : Int) ∧ ¬ (I : Int) < 12 := by omega
      by_cases d2 : D = 2
      · have j2 : (D : Int) = 2 := by omega
        subst d2
        by_cases p9 : P ≤ 999
        · have j3 : ¬ 999 < (P : Int) := by omega
          by_cases hin : inR 0 (wrap64 (T + P)) 999999999 = true
          · obtain ⟨n, hn⟩ : ∃ n : Nat, wrap64 (T + P) = (n : Int) := ⟨(wrap64 (T + P)).toNat, by have := (inR_iff.1 hin).1; omega⟩
            have hn9 : n ≤ 999999999 := by have := (inR_iff.1 hin).2; omega
            rw [hn] at hin
            have HT := Lib.hid (fun w => l02Text_s n hn9 w)
            by_cases he : verT n = s
            · have HI := Lib.hid (show IsNum s (n : Int) from .inr ⟨n, hn9, rfl, he.symm⟩)
              have HJ := Lib.hid (show IsNum s (wrap64 (T + P)) from by rw [hn]; exact HI.out)
              have e : ((verT n).toList == s.toList) = true := by rw [he]; simp
              have e' : ((verT n).toList != s.toList) = false := by rw [he]; simp
              clear he
              obtain ⟨R, hR⟩ : ∃ R, verT n = R := ⟨_, rfl⟩
              rw [hR] at e e' HT
              clear hR
              rcases KX with k1 | ⟨k1, k2⟩ <;>
              · go_wp2_with (first | (go_at_call 49; refine (l00In_any _ _ _ _).mono ?_; rintro e w1 ⟨rfl, rfl⟩) | (go_at_call 39; refine (HT.out _).mono ?_; rintro e w2 ⟨rfl, hb2⟩))
                go_ret
                first | exact ⟨_, rfl, HI.out, hb.trans (hb2.mono hb.size)⟩ | exact ⟨_, rfl, HJ.out, hb.trans (hb2.mono hb.size)⟩
            · have HI := Lib.hid (hno.out (fun m hm h _ _ hx => he (by rw [hn] at hx; rw [h, Int.ofNat_inj.1 hx])))
              have e' : ((verT n).toList != s.toList) = true := by
                simp only [bne, Bool.not_eq_true', beq_eq_false_iff_ne]
                intro h
                rw [ByteArray.toList_eq, ByteArray.toList_eq] at h
                exact he (ByteArray.ext (Array.toList_inj.1 h))
              have e : ((verT n).toList == s.toList) = false := by simpa [bne] using e'
              clear he
              obtain ⟨R, hR⟩ : ∃ R, verT n = R := ⟨_, rfl⟩
              rw [hR] at e e' HT
              clear hR
              rcases KX with k1 | ⟨k1, k2⟩ <;>
              · go_wp2_with (first | (go_at_call 49; refine (l00In_any _ _ _ _).mono ?_; rintro e w1 ⟨rfl, rfl⟩) | (go_at_call 39; refine (HT.out _).mono ?_; rintro e w2 ⟨rfl, hb2⟩))
                go_ret
                first | exact ⟨_, rfl, HI.out, hb.trans (hb2.mono hb.size)⟩ | exact ⟨_, rfl, HJ.out, hb.trans (hb2.mono hb.size)⟩
          · have hin' : inR 0 (wrap64 (T + P)) 999999999 = false := by simpa using hin
            have HI := Lib.hid (hno.out (fun m hm _ _ _ hx => hin (inR_iff.2 (by omega))))
            clear hin
            rcases KX with k1 | ⟨k1, k2⟩ <;>
            · go_wp2_with (first | (go_at_call 49; refine (l00In_any _ _ _ _).mono ?_; rintro e w1 ⟨rfl, rfl⟩))
              go_ret
              exact ⟨_, rfl, HI.out, hb⟩
        · have j3 : 999 < (P : Int) := by omega
          have HI := Lib.hid (hno.out (fun m hm _ _ hx _ => p9 hx))
          rcases KX with k1 | ⟨k1, k2⟩ <;>
          · go_wp2
            go_ret
            exact ⟨_, rfl, HI.out, hb⟩
      · have j2 : ¬ (D : Int) = 2 := by omega
        have HI := Lib.hid (hno.out (fun m hm _ hx _ _ => d2 hx))
        rcases KX with k1 | ⟨k1, k2⟩ <;>
        · go_wp2
          go_ret
          exact ⟨_, rfl, HI.out, hb⟩
end Go.Proofs.YtadngjalhekmlaaDoor
