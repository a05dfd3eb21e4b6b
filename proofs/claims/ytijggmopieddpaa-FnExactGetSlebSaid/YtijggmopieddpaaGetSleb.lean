/- GetSleb: what the program's and the reference's function compute. -/
import Derived.Test.YtijggmopieddpaaGetLeb
import Derived.Test.YtijggmopieddpaaPutSleb
namespace Go.Proofs.Ytijggmopieddpaa
open Go.RowKit

/-- What the first bytes give. -/
def slAcc (l : List UInt8) : Nat → Int
  | 0 => 0
  | k + 1 => bits .or .i64 (slAcc l k) (wrap64 (wrap64 (((l.getD k 0).toNat : Int) % 128) * 2 ^ (7 * k)))
/-- With the sign, if the byte at k is the last. -/
def slEnd (l : List UInt8) (k : Nat) : Int :=
  if k < 9 ∧ 64 ≤ (l.getD k 0).toNat then bits .or .i64 (slAcc l (k + 1)) (wrap64 (-2 ^ (7 * (k + 1)))) else slAcc l (k + 1)
/-- What GetSleb returns. -/
def getSleb (l : List UInt8) : Int × Nat × Bool :=
  if lebLen 10 l = 0 then (0, 0, false)
  else if sleb (slEnd l (lebLen 10 l - 1)) = l.take (lebLen 10 l) then (slEnd l (lebLen 10 l - 1), lebLen 10 l, true) else (0, 0, false)

theorem and64 (n : Nat) (h : n < 128) : 0 < bits .and .u8 (n : Int) 64 ↔ 64 ≤ n := by
  have : ∀ n : Fin 128, (0 < bits .and .u8 ((n.1 : Nat) : Int) 64 ↔ 64 ≤ n.1) := by decide +kernel
  exact this ⟨n, h⟩
theorem bits_i64_range (o : BinOp) (ho : o = .or) (a b : Int) : -9223372036854775808 ≤ bits o .i64 a b ∧ bits o .i64 a b ≤ 9223372036854775807 := by
  subst ho
  show _ ≤ IntKind.i64.wrap _ ∧ IntKind.i64.wrap _ ≤ _
  rw [i64_wrap]
  simp only [wrap64]
  omega
theorem slAcc_range (l : List UInt8) (k : Nat) : -9223372036854775808 ≤ slAcc l (k + 1) ∧ slAcc l (k + 1) ≤ 9223372036854775807 := bits_i64_range _ rfl _ _

theorem getSleb_yes {l : List UInt8} {k : Nat} {a : Int} (hl : lebLen 10 l = k + 1) (hE : slEnd l k = a) (hd : sleb a = l.take (k + 1)) : getSleb l = (a, k + 1, true) := by
  simp [getSleb, hl, hE, hd]
theorem getSleb_no {l : List UInt8} {k : Nat} {a : Int} (hl : lebLen 10 l = k + 1) (hE : slEnd l k = a) (hd : ¬ sleb a = l.take (k + 1)) : getSleb l = (0, 0, false) := by
  simp [getSleb, hl, hE, hd]

set_option maxHeartbeats 3000000 in
set_option maxRecDepth 20000 in
theorem getSleb_i (s : ByteArray) (_hs : s.size ≤ maxLen) (w : World) :
    Calls Try.prog 5 #[.string s] w fun e w' => e = .returned (.tuple #[.int .i64 (getSleb s.data.toList).1, .int .i64 (getSleb s.data.toList).2.1, .bool (getSleb s.data.toList).2.2]) ∧ Below w.heap.size w w' := by
  unfold maxLen at _hs
  go_enter Try.func5, Try.ntmps5
  go_wp2
  go_loop [5, 6] (fun n i => ∃ k : Nat, k ≤ s.size ∧ k ≤ 10 ∧ i = .int .i64 k ∧ n = .int .i64 (slAcc s.data.toList k) ∧ Marked s k) (fun _ i => 10 - (intOf i).toNat)
  case atStart => exact ⟨0, Nat.zero_le _, by omega, rfl, rfl, fun i hi => by omega⟩
  case round =>
    obtain ⟨k, hk, hk9, rfl, rfl, hm⟩ := hrel
    by_cases hlt : k < s.size ∧ k < 10
    · obtain ⟨h1, h2⟩ := hlt
      have g3 : bits .or .i64 (slAcc s.data.toList k) (wrap64 (wrap64 ((s[k].toNat : Int) % 128) * 2 ^ (7 * k))) = slAcc s.data.toList (k + 1) := by
        rw [← at_byte s k h1]; rfl
      have hand := u8_and127 (s[k].toNat : Int) (by omega) (by have := s[k].toNat_lt; omega)
      rw [← hand] at g3
      have G3 := Lib.hid g3
      clear g3 hand
      by_cases hc : (s[k].toNat : Int) < 128
      · have hl : lebLen 10 s.data.toList = k + 1 := lebLen_some h2 (by simpa using h1) (by rw [at_byte s _ h1]; omega) hm
        go_wp2
        · have hE : slEnd s.data.toList k = bits .or .i64 (slAcc s.data.toList (k + 1)) (wrap64 (-2 ^ (7 * (k + 1)))) := if_pos ⟨by omega, by rw [at_byte s _ h1]; omega⟩
          have ha := bits_i64_range .or rfl (slAcc s.data.toList (k + 1)) (wrap64 (-2 ^ (7 * (k + 1))))
          rw [G3.out]
          clear G3
          generalize bits .or .i64 (slAcc s.data.toList (k + 1)) (wrap64 (-2 ^ (7 * (k + 1)))) = a at *
          have hex : (s.extract 0 (k + 1)).toList = s.data.toList.take (k + 1) := by rw [Lib.extract_toList]; simp
          have hI1 : (0 : Int) ≤ (k : Int) + 1 := by omega
          have hI2 : (k : Int) + 1 ≤ (s.size : Int) := by omega
          have hI3 : ((k : Int) + 1).toNat = k + 1 := by omega
          have hI4 : IntKind.i64.wrap ((k : Int) + 1) = (k : Int) + 1 := by rw [i64_wrap]; simp only [wrap64]; omega
          by_cases hd : sleb a = s.data.toList.take (k + 1)
          · have hD : (sleb a == (s.extract 0 (k + 1)).toList) = true := by rw [hex, hd]; simp
            have hg := getSleb_yes hl hE hd
            have HG := Lib.hid hg
            clear hg hd hex hE hl
            refine wp_region_quiet_below (by kernel_rfl) (by kernel_rfl) ?_
            repeat (quiet_step (exact Calls.regrown_of (putSleb_i _ ha.1 ha.2 _)))
            refine wpQuiet_nil ?_
            intro w2 hw2
            have hb2 := below_of_regrown hw2
            clear hw2
            go_wp2
            go_ret3
            exact ⟨ret_eq (by rw [HG.out]; rfl), hb2⟩
          · have hD : (sleb a == (s.extract 0 (k + 1)).toList) = false := by rw [hex, beq_eq_false_iff_ne]; exact hd
            have hg := getSleb_no hl hE hd
            have HG := Lib.hid hg
            clear hg hd hex hE hl
            refine wp_region_quiet_below (by kernel_rfl) (by kernel_rfl) ?_
            repeat (quiet_step (exact Calls.regrown_of (putSleb_i _ ha.1 ha.2 _)))
            refine wpQuiet_nil ?_
            intro w2 hw2
            have hb2 := below_of_regrown hw2
            clear hw2
            go_wp2
            go_ret3
            exact ⟨ret_eq (by rw [HG.out]; rfl), hb2⟩
        · have hE : slEnd s.data.toList k = slAcc s.data.toList (k + 1) := if_neg (by rw [at_byte s _ h1]; omega)
          have ha := slAcc_range s.data.toList k
          rw [G3.out]
          clear G3
          generalize slAcc s.data.toList (k + 1) = a at *
          have hex : (s.extract 0 (k + 1)).toList = s.data.toList.take (k + 1) := by rw [Lib.extract_toList]; simp
          have hI1 : (0 : Int) ≤ (k : Int) + 1 := by omega
          have hI2 : (k : Int) + 1 ≤ (s.size : Int) := by omega
          have hI3 : ((k : Int) + 1).toNat = k + 1 := by omega
          have hI4 : IntKind.i64.wrap ((k : Int) + 1) = (k : Int) + 1 := by rw [i64_wrap]; simp only [wrap64]; omega
          by_cases hd : sleb a = s.data.toList.take (k + 1)
          · have hD : (sleb a == (s.extract 0 (k + 1)).toList) = true := by rw [hex, hd]; simp
            have hg := getSleb_yes hl hE hd
            have HG := Lib.hid hg
            clear hg hd hex hE hl
            refine wp_region_quiet_below (by kernel_rfl) (by kernel_rfl) ?_
            repeat (quiet_step (exact Calls.regrown_of (putSleb_i _ ha.1 ha.2 _)))
            refine wpQuiet_nil ?_
            intro w2 hw2
            have hb2 := below_of_regrown hw2
            clear hw2
            go_wp2
            go_ret3
            exact ⟨ret_eq (by rw [HG.out]; rfl), hb2⟩
          · have hD : (sleb a == (s.extract 0 (k + 1)).toList) = false := by rw [hex, beq_eq_false_iff_ne]; exact hd
            have hg := getSleb_no hl hE hd
            have HG := Lib.hid hg
            clear hg hd hex hE hl
            refine wp_region_quiet_below (by kernel_rfl) (by kernel_rfl) ?_
            repeat (quiet_step (exact Calls.regrown_of (putSleb_i _ ha.1 ha.2 _)))
            refine wpQuiet_nil ?_
            intro w2 hw2
            have hb2 := below_of_regrown hw2
            clear hw2
            go_wp2
            go_ret3
            exact ⟨ret_eq (by rw [HG.out]; rfl), hb2⟩
        · have hE : slEnd s.data.toList k = slAcc s.data.toList (k + 1) := if_neg (by omega)
          have ha := slAcc_range s.data.toList k
          rw [G3.out]
          clear G3
          generalize slAcc s.data.toList (k + 1) = a at *
          have hex : (s.extract 0 (k + 1)).toList = s.data.toList.take (k + 1) := by rw [Lib.extract_toList]; simp
          have hI1 : (0 : Int) ≤ (k : Int) + 1 := by omega
          have hI2 : (k : Int) + 1 ≤ (s.size : Int) := by omega
          have hI3 : ((k : Int) + 1).toNat = k + 1 := by omega
          have hI4 : IntKind.i64.wrap ((k : Int) + 1) = (k : Int) + 1 := by rw [i64_wrap]; simp only [wrap64]; omega
          by_cases hd : sleb a = s.data.toList.take (k + 1)
          · have hD : (sleb a == (s.extract 0 (k + 1)).toList) = true := by rw [hex, hd]; simp
            have hg := getSleb_yes hl hE hd
            have HG := Lib.hid hg
            clear hg hd hex hE hl
            refine wp_region_quiet_below (by kernel_rfl) (by kernel_rfl) ?_
            repeat (quiet_step (exact Calls.regrown_of (putSleb_i _ ha.1 ha.2 _)))
            refine wpQuiet_nil ?_
            intro w2 hw2
            have hb2 := below_of_regrown hw2
            clear hw2
            go_wp2
            go_ret3
            exact ⟨ret_eq (by rw [HG.out]; rfl), hb2⟩
          · have hD : (sleb a == (s.extract 0 (k + 1)).toList) = false := by rw [hex, beq_eq_false_iff_ne]; exact hd
            have hg := getSleb_no hl hE hd
            have HG := Lib.hid hg
            clear hg hd hex hE hl
            refine wp_region_quiet_below (by kernel_rfl) (by kernel_rfl) ?_
            repeat (quiet_step (exact Calls.regrown_of (putSleb_i _ ha.1 ha.2 _)))
            refine wpQuiet_nil ?_
            intro w2 hw2
            have hb2 := below_of_regrown hw2
            clear hw2
            go_wp2
            go_ret3
            exact ⟨ret_eq (by rw [HG.out]; rfl), hb2⟩
      · go_wp2
        go_round
        case rel => exact ⟨k + 1, by omega, by omega, by go_num, by rw [G3.out], hm.next h1 hc⟩
        case measure => simp [intOf]; omega
    · have hl : lebLen 10 s.data.toList = 0 := lebLen_none (fun i h1 h2 => hm i (by simp at h2; omega))
      have hg : getSleb s.data.toList = (0, 0, false) := by simp [getSleb, hl]
      have HG := Lib.hid hg
      clear hg hl
      by_cases h1 : k < s.size
      all_goals
        go_wp2
        go_ret3
        exact ⟨ret_eq (by rw [HG.out]; rfl), Below.refl _ _⟩
set_option maxHeartbeats 3000000 in
set_option maxRecDepth 20000 in
theorem getSleb_s (s : ByteArray) (_hs : s.size ≤ maxLen) (w : World) :
    Calls Try.prog 4 #[.string s] w fun e w' => e = .returned (.tuple #[.int .i64 (getSleb s.data.toList).1, .int .i64 (getSleb s.data.toList).2.1, .bool (getSleb s.data.toList).2.2]) ∧ Below w.heap.size w w' := by
  unfold maxLen at _hs
  go_enter Try.func4, Try.ntmps4
  go_wp2
  go_loop [5, 6] (fun n i => ∃ k : Nat, k ≤ s.size ∧ k ≤ 10 ∧ i = .int .i64 k ∧ n = .int .i64 (slAcc s.data.toList k) ∧ Marked s k) (fun _ i => 10 - (intOf i).toNat)
  case atStart => exact ⟨0, Nat.zero_le _, by omega, rfl, rfl, fun i hi => by omega⟩
  case round =>
    obtain ⟨k, hk, hk9, rfl, rfl, hm⟩ := hrel
    by_cases hlt : k < s.size ∧ k < 10
    · obtain ⟨h1, h2⟩ := hlt
      have g3 : bits .or .i64 (slAcc s.data.toList k) (wrap64 (wrap64 ((s[k].toNat : Int) % 128) * 2 ^ (7 * k))) = slAcc s.data.toList (k + 1) := by
        rw [← at_byte s k h1]; rfl
      have hand := u8_and127 (s[k].toNat : Int) (by omega) (by have := s[k].toNat_lt; omega)
      rw [← hand] at g3
      have G3 := Lib.hid g3
      clear g3 hand
      by_cases hc : (s[k].toNat : Int) < 128
      · have hl : lebLen 10 s.data.toList = k + 1 := lebLen_some h2 (by simpa using h1) (by rw [at_byte s _ h1]; omega) hm
        go_wp2
        · have hE : slEnd s.data.toList k = bits .or .i64 (slAcc s.data.toList (k + 1)) (wrap64 (-2 ^ (7 * (k + 1)))) := if_pos ⟨by omega, by rw [at_byte s _ h1]; have := and64 s[k].toNat (by omega); omega⟩
          have ha := bits_i64_range .or rfl (slAcc s.data.toList (k + 1)) (wrap64 (-2 ^ (7 * (k + 1))))
          rw [G3.out]
          clear G3
          generalize bits .or .i64 (slAcc s.data.toList (k + 1)) (wrap64 (-2 ^ (7 * (k + 1)))) = a at *
          have hex : (s.extract 0 (k + 1)).toList = s.data.toList.take (k + 1) := by rw [Lib.extract_toList]; simp
          have hI1 : (0 : Int) ≤ (k : Int) + 1 := by omega
          have hI2 : (k : Int) + 1 ≤ (s.size : Int) := by omega
          have hI3 : ((k : Int) + 1).toNat = k + 1 := by omega
          have hI4 : IntKind.i64.wrap ((k : Int) + 1) = (k : Int) + 1 := by rw [i64_wrap]; simp only [wrap64]; omega
          by_cases hd : sleb a = s.data.toList.take (k + 1)
          · have hD : (sleb a == (s.extract 0 (k + 1)).toList) = true := by rw [hex, hd]; simp
            have hg := getSleb_yes hl hE hd
            have HG := Lib.hid hg
            clear hg hd hex hE hl
            refine wp_region_quiet_below (by kernel_rfl) (by kernel_rfl) ?_
            repeat (quiet_step (exact Calls.regrown_of (putSleb_s _ ha.1 ha.2 _)))
            refine wpQuiet_nil ?_
            intro w2 hw2
            have hb2 := below_of_regrown hw2
            clear hw2
            go_wp2
            go_ret3
            exact ⟨ret_eq (by rw [HG.out]; rfl), hb2⟩
          · have hD : (sleb a == (s.extract 0 (k + 1)).toList) = false := by rw [hex, beq_eq_false_iff_ne]; exact hd
            have hg := getSleb_no hl hE hd
            have HG := Lib.hid hg
            clear hg hd hex hE hl
            refine wp_region_quiet_below (by kernel_rfl) (by kernel_rfl) ?_
            repeat (quiet_step (exact Calls.regrown_of (putSleb_s _ ha.1 ha.2 _)))
            refine wpQuiet_nil ?_
            intro w2 hw2
            have hb2 := below_of_regrown hw2
            clear hw2
            go_wp2
            go_ret3
            exact ⟨ret_eq (by rw [HG.out]; rfl), hb2⟩
        · have hE : slEnd s.data.toList k = slAcc s.data.toList (k + 1) := if_neg (by rw [at_byte s _ h1]; have := and64 s[k].toNat (by omega); omega)
          have ha := slAcc_range s.data.toList k
          rw [G3.out]
          clear G3
          generalize slAcc s.data.toList (k + 1) = a at *
          have hex : (s.extract 0 (k + 1)).toList = s.data.toList.take (k + 1) := by rw [Lib.extract_toList]; simp
          have hI1 : (0 : Int) ≤ (k : Int) + 1 := by omega
          have hI2 : (k : Int) + 1 ≤ (s.size : Int) := by omega
          have hI3 : ((k : Int) + 1).toNat = k + 1 := by omega
          have hI4 : IntKind.i64.wrap ((k : Int) + 1) = (k : Int) + 1 := by rw [i64_wrap]; simp only [wrap64]; omega
          by_cases hd : sleb a = s.data.toList.take (k + 1)
          · have hD : (sleb a == (s.extract 0 (k + 1)).toList) = true := by rw [hex, hd]; simp
            have hg := getSleb_yes hl hE hd
            have HG := Lib.hid hg
            clear hg hd hex hE hl
            refine wp_region_quiet_below (by kernel_rfl) (by kernel_rfl) ?_
            repeat (quiet_step (exact Calls.regrown_of (putSleb_s _ ha.1 ha.2 _)))
            refine wpQuiet_nil ?_
            intro w2 hw2
            have hb2 := below_of_regrown hw2
            clear hw2
            go_wp2
            go_ret3
            exact ⟨ret_eq (by rw [HG.out]; rfl), hb2⟩
          · have hD : (sleb a == (s.extract 0 (k + 1)).toList) = false := by rw [hex, beq_eq_false_iff_ne]; exact hd
            have hg := getSleb_no hl hE hd
            have HG := Lib.hid hg
            clear hg hd hex hE hl
            refine wp_region_quiet_below (by kernel_rfl) (by kernel_rfl) ?_
            repeat (quiet_step (exact Calls.regrown_of (putSleb_s _ ha.1 ha.2 _)))
            refine wpQuiet_nil ?_
            intro w2 hw2
            have hb2 := below_of_regrown hw2
            clear hw2
            go_wp2
            go_ret3
            exact ⟨ret_eq (by rw [HG.out]; rfl), hb2⟩
        · have hE : slEnd s.data.toList k = slAcc s.data.toList (k + 1) := if_neg (by omega)
          have ha := slAcc_range s.data.toList k
          rw [G3.out]
          clear G3
          generalize slAcc s.data.toList (k + 1) = a at *
          have hex : (s.extract 0 (k + 1)).toList = s.data.toList.take (k + 1) := by rw [Lib.extract_toList]; simp
          have hI1 : (0 : Int) ≤ (k : Int) + 1 := by omega
          have hI2 : (k : Int) + 1 ≤ (s.size : Int) := by omega
          have hI3 : ((k : Int) + 1).toNat = k + 1 := by omega
          have hI4 : IntKind.i64.wrap ((k : Int) + 1) = (k : Int) + 1 := by rw [i64_wrap]; simp only [wrap64]; omega
          by_cases hd : sleb a = s.data.toList.take (k + 1)
          · have hD : (sleb a == (s.extract 0 (k + 1)).toList) = true := by rw [hex, hd]; simp
            have hg := getSleb_yes hl hE hd
            have HG := Lib.hid hg
            clear hg hd hex hE hl
            refine wp_region_quiet_below (by kernel_rfl) (by kernel_rfl) ?_
            repeat (quiet_step (exact Calls.regrown_of (putSleb_s _ ha.1 ha.2 _)))
            refine wpQuiet_nil ?_
            intro w2 hw2
            have hb2 := below_of_regrown hw2
            clear hw2
            go_wp2
            go_ret3
            exact ⟨ret_eq (by rw [HG.out]; rfl), hb2⟩
          · have hD : (sleb a == (s.extract 0 (k + 1)).toList) = false := by rw [hex, beq_eq_false_iff_ne]; exact hd
            have hg := getSleb_no hl hE hd
            have HG := Lib.hid hg
            clear hg hd hex hE hl
            refine wp_region_quiet_below (by kernel_rfl) (by kernel_rfl) ?_
            repeat (quiet_step (exact Calls.regrown_of (putSleb_s _ ha.1 ha.2 _)))
            refine wpQuiet_nil ?_
            intro w2 hw2
            have hb2 := below_of_regrown hw2
            clear hw2
            go_wp2
            go_ret3
            exact ⟨ret_eq (by rw [HG.out]; rfl), hb2⟩
      · go_wp2
        go_round
        case rel => exact ⟨k + 1, by omega, by omega, by go_num, by rw [G3.out], hm.next h1 hc⟩
        case measure => simp [intOf]; omega
    · have hl : lebLen 10 s.data.toList = 0 := lebLen_none (fun i h1 h2 => hm i (by simp at h2; omega))
      have hg : getSleb s.data.toList = (0, 0, false) := by simp [getSleb, hl]
      have HG := Lib.hid hg
      clear hg hl
      by_cases h1 : k < s.size
      all_goals
        go_wp2
        go_ret3
        exact ⟨ret_eq (by rw [HG.out]; rfl), Below.refl _ _⟩
theorem law_FnExactGetSleb (s : ByteArray) (hs : s.size ≤ maxLen) (w : World) :
    Calls Try.prog 3 #[.string s] w fun e w' => e = .returned (.bool true) ∧ Below w.heap.size w w' := by
  obtain ⟨a, b, c, hg⟩ : ∃ a b c, getSleb s.data.toList = (a, b, c) := ⟨_, _, _, rfl⟩
  have h1 := fun w => getSleb_s s hs w
  have h2 := fun w => getSleb_i s hs w
  rw [hg] at h1 h2
  have H1 := Lib.hid h1
  have H2 := Lib.hid h2
  clear h1 h2 hg
  by_cases hb : s.size ≤ 1048576
  all_goals
    go_enter Try.func3, Try.ntmps3
    go_wp2_with (first
      | (go_at_call 4; refine (H1.out _).mono ?_; rintro e w1 ⟨rfl, hb1⟩)
      | (go_at_call 5; refine (H2.out _).mono ?_; rintro e w2 ⟨rfl, hb2⟩))
    go_ret
    exact ⟨rfl, by first | exact hb1.trans (hb2.mono hb1.size) | exact Below.refl _ _⟩
end Go.Proofs.Ytijggmopieddpaa
