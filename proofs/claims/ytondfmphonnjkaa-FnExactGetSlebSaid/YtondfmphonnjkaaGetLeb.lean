/- GetLeb: what the program's and the reference's function compute, and the law. -/
import Derived.Test.YtondfmphonnjkaaLebLaw
import Derived.Deep.QuietTactic
import Derived.BigQuiet
namespace Go.Proofs.Ytondfmphonnjkaa
open Go.RowKit

theorem at_byte (s : ByteArray) (k : Nat) (h : k < s.size) : s.data.toList.getD k 0 = s[k] := by
  rw [List.getD_eq_getElem?_getD, List.getElem?_eq_getElem (by simpa using h)]
  rfl

/-- The number at the head: its value, and how many bytes it has. -/
def lebHead (l : List UInt8) : Nat × Nat := (if lebLen 9 l = 0 then 0 else lebVal (l.take (lebLen 9 l)), lebLen 9 l)

/-- So far every byte has a mark. -/
def Marked (s : ByteArray) (k : Nat) : Prop := ∀ i, i < k → 128 ≤ (s.data.toList.getD i 0).toNat
theorem Marked.next {s : ByteArray} {k : Nat} (h : Marked s k) (hk : k < s.size) (hc : ¬ (s[k].toNat : Int) < 128) : Marked s (k + 1) := by
  intro i hi
  by_cases e : i = k
  · subst e; rw [at_byte s _ hk]; omega
  · exact h i (by omega)
theorem Marked.found {s : ByteArray} {k : Nat} (h : Marked s k) (hk : k < s.size) (h9 : k < 9) (hc : (s[k].toNat : Int) < 128) : lebLen 9 s.data.toList = k + 1 :=
  lebLen_some h9 (by simpa using hk) (by rw [at_byte s _ hk]; omega) h
theorem Marked.none_ {s : ByteArray} {k : Nat} (h : Marked s k) (hk : ¬ (k < s.size ∧ k < 9)) : lebLen 9 s.data.toList = 0 :=
  lebLen_none (fun i h1 h2 => h i (by simp at h2; omega))

set_option maxHeartbeats 400000 in
set_option maxRecDepth 20000 in
theorem l01Leb_s (s : ByteArray) (_hs : s.size ≤ maxLen) (w : World) :
    Calls Try.prog 74 #[.string s] w fun e w' => e = .returned (.tuple #[.int .i64 (lebHead s.data.toList).1, .int .i64 (lebHead s.data.toList).2]) ∧ w = w' := by
  unfold maxLen at _hs
  go_enter Try.func74, Try.ntmps74
  go_wp2
  go_loop [4, 5] (fun n i => ∃ k : Nat, k ≤ s.size ∧ k ≤ 9 ∧ i = .int .i64 k ∧ n = .int .i64 (lebVal (s.data.toList.take k)) ∧ Marked s k) (fun _ i => 9 - (intOf i).toNat)
  case atStart => exact ⟨0, Nat.zero_le _, by omega, rfl, rfl, fun i hi => by omega⟩
  case round =>
    obtain ⟨k, hk, hk9, rfl, rfl, hm⟩ := hrel
    by_cases hlt : k < s.size ∧ k < 9
    · obtain ⟨h1, h2⟩ := hlt
      obtain ⟨-, -, g3⟩ := leb_step (s.data.toList.take k) s[k] (by rw [take_len s k hk]; exact h2)
      rw [← take_snoc s k h1, take_len s k hk] at g3
      have hand := u8_and127 (s[k].toNat : Int) (by omega) (by have := s[k].toNat_lt; omega)
      rw [← hand] at g3
      have G3 := Lib.hid g3
      clear g3 hand
      go_wp2
      · have hc : (s[k].toNat : Int) < 128 := by assumption
        go_ret2
        refine ⟨ret_eq ?_, rfl⟩
        have hl := hm.found h1 h2 hc
        simp only [lebHead, hl]
        simp
        exact G3.out
      · have hc : ¬ (s[k].toNat : Int) < 128 := by omega
        go_round
        case rel => exact ⟨k + 1, by omega, by omega, by go_num, by rw [G3.out], hm.next h1 hc⟩
        case measure => simp [intOf]; omega
    · have hl := hm.none_ hlt
      by_cases h1 : k < s.size
      all_goals
        go_wp2
        go_ret2
        exact ⟨ret_eq (by simp [lebHead, hl]), rfl⟩

set_option maxHeartbeats 400000 in
set_option maxRecDepth 20000 in
theorem getLeb_i (s : ByteArray) (_hs : s.size ≤ maxLen) (w : World) :
    Calls Try.prog 58 #[.string s] w fun e w' => e = .returned (.tuple #[.int .i64 (getLeb s.data.toList).1, .int .i64 (getLeb s.data.toList).2.1, .bool (getLeb s.data.toList).2.2]) ∧ w = w' := by
  unfold maxLen at _hs
  go_enter Try.func58, Try.ntmps58
  go_wp2
  go_loop [5, 6] (fun n i => ∃ k : Nat, k ≤ s.size ∧ k ≤ 9 ∧ i = .int .i64 k ∧ n = .int .u64 (lebVal (s.data.toList.take k)) ∧ Marked s k) (fun _ i => 9 - (intOf i).toNat)
  case atStart => exact ⟨0, Nat.zero_le _, by omega, rfl, rfl, fun i hi => by omega⟩
  case round =>
    obtain ⟨k, hk, hk9, rfl, rfl, hm⟩ := hrel
    by_cases hlt : k < s.size ∧ k < 9
    · obtain ⟨h1, h2⟩ := hlt
      obtain ⟨-, g2, -⟩ := leb_step (s.data.toList.take k) s[k] (by rw [take_len s k hk]; exact h2)
      rw [← take_snoc s k h1, take_len s k hk] at g2
      have hand := u8_and127 (s[k].toNat : Int) (by omega) (by have := s[k].toNat_lt; omega)
      rw [← hand] at g2
      have G2 := Lib.hid g2
      clear g2 hand
      have hw : Hid (wrap64 (lebVal (s.data.toList.take (k + 1)) : Int) = (lebVal (s.data.toList.take (k + 1)) : Int)) := by
        have := (leb_step (s.data.toList.take k) s[k] (by rw [take_len s k hk]; exact h2)).2.2
        have hlt := lebVal_lt (s.data.toList.take (k + 1))
        rw [take_len s _ (by omega)] at hlt
        have hp : (2 : Nat) ^ (7 * (k + 1)) ≤ 2 ^ 63 := Nat.pow_le_pow_right (by decide) (by omega)
        show wrap64 _ = _
        simp only [wrap64]
        omega
      go_wp2
      · have hc : (s[k].toNat : Int) < 128 := by assumption
        have h0 : ((s[k].toNat : Int) == 0) = true := by assumption
        have h00 : s[k] = 0 := by apply UInt8.toNat_inj.1; simpa using h0
        have hl := hm.found h1 h2 hc
        go_ret3
        refine ⟨ret_eq ?_, rfl⟩
        have hg : getLeb s.data.toList = (0, 0, false) := by
          rw [getLeb, hl, if_neg (by omega), if_pos ⟨by omega, by rw [show k + 1 - 1 = k by omega, at_byte s k h1, h00]⟩]
        rw [hg]
        rfl
      · have hc : (s[k].toNat : Int) < 128 := by assumption
        have h0 : ((s[k].toNat : Int) == 0) = false := by assumption
        have h00 : s[k] ≠ 0 := by intro h; rw [h] at h0; simp at h0
        have hl := hm.found h1 h2 hc
        go_ret3
        refine ⟨ret_eq ?_, rfl⟩
        have hg : getLeb s.data.toList = (lebVal (s.data.toList.take (k + 1)), k + 1, true) := by
          rw [getLeb, hl, if_neg (by omega), if_neg (by rw [show k + 1 - 1 = k by omega, at_byte s k h1]; exact fun h => h00 h.2)]
        rw [hg]
        simp [G2.out, hw.out]
      · have hc : (s[k].toNat : Int) < 128 := by assumption
        have hk0 : ¬ 0 < k := by assumption
        have hl := hm.found h1 h2 hc
        go_ret3
        refine ⟨ret_eq ?_, rfl⟩
        have hg : getLeb s.data.toList = (lebVal (s.data.toList.take (k + 1)), k + 1, true) := by
          rw [getLeb, hl, if_neg (by omega), if_neg (by omega)]
        rw [hg]
        simp [G2.out, hw.out]
      · have hc : ¬ (s[k].toNat : Int) < 128 := by omega
        go_round
        case rel => exact ⟨k + 1, by omega, by omega, by go_num, by rw [G2.out], hm.next h1 hc⟩
        case measure => simp [intOf]; omega
    · have hl := hm.none_ hlt
      by_cases h1 : k < s.size
      all_goals
        go_wp2
        go_ret3
        exact ⟨ret_eq (by simp [getLeb, hl]), rfl⟩

theorem l01Leb_eq (s : ByteArray) (hs : s.size ≤ maxLen) (w : World) (a q : Nat) (h : lebHead s.data.toList = (a, q)) :
    Calls Try.prog 74 #[.string s] w fun e w' => e = .returned (.tuple #[.int .i64 a, .int .i64 q]) ∧ w = w' := by
  have := l01Leb_s s hs w
  rw [h] at this
  exact this

theorem lebLen_spec {f : Nat} {l : List UInt8} {m : Nat} (h : lebLen f l = m + 1) : m < l.length ∧ m < f ∧ (l.getD m 0).toNat < 128 ∧ ∀ i, i < m → 128 ≤ (l.getD i 0).toNat := by
  induction f generalizing l m with
  | zero => simp [lebLen] at h
  | succ f ih =>
    match l with
    | [] => simp [lebLen] at h
    | c :: r =>
      rw [lebLen] at h
      split at h
      · rename_i hc
        obtain rfl : m = 0 := by omega
        exact ⟨by simp, by omega, by simpa using hc, fun i hi => by omega⟩
      · rename_i hc
        split at h
        · omega
        · rename_i hn
          obtain ⟨q, hq⟩ : ∃ q, lebLen f r = q + 1 := ⟨lebLen f r - 1, by omega⟩
          obtain rfl : m = q + 1 := by omega
          obtain ⟨g1, g2, g3, g4⟩ := ih hq
          refine ⟨by simp; omega, by omega, by simpa using g3, fun i hi => ?_⟩
          cases i with
          | zero => simp; omega
          | succ i => simpa using g4 i (by omega)

/-- The text that was read, and the value that it has: whether the value's own encoding is the text. -/
theorem getLeb_cases (l : List UInt8) (m : Nat) (h : lebLen 9 l = m + 1) : m < l.length ∧ m < 9 ∧
    getLeb l = if leb (lebVal (l.take (m + 1))) = l.take (m + 1) then (lebVal (l.take (m + 1)), m + 1, true) else (0, 0, false) := by
  obtain ⟨h1, h2, h3, h4⟩ := lebLen_spec h
  refine ⟨h1, h2, ?_⟩
  have hg : l.getD m 0 = l[m] := by rw [List.getD_eq_getElem?_getD, List.getElem?_eq_getElem h1]; rfl
  have e : l.take (m + 1) = l.take m ++ [l.getD m 0] := by rw [List.take_succ_eq_append_getElem h1, hg]
  have key := leb_lebVal (l.take m) (l.getD m 0) (fun d hd => by
    obtain ⟨i, hi, rfl⟩ := List.mem_iff_getElem.1 hd
    have hi' : i < m := by rw [List.length_take] at hi; omega
    have := h4 i hi'
    rw [List.getD_eq_getElem?_getD, List.getElem?_eq_getElem (by omega)] at this
    simpa using this) h3
  rw [← e] at key
  rw [getLeb, h, if_neg (by omega), show m + 1 - 1 = m by omega]
  by_cases hk : leb (lebVal (l.take (m + 1))) = l.take (m + 1)
  · rw [if_pos hk, if_neg]
    rintro ⟨g1, g2⟩
    rcases key.1 hk with g | g
    · have := congrArg List.length g
      simp only [List.length_take, List.length_nil] at this
      omega
    · rw [g2] at g; exact g rfl
  · rw [if_neg hk, if_pos]
    constructor
    · rcases Nat.eq_zero_or_pos m with h0 | h0
      · exact absurd (key.2 (.inl (by rw [h0]; rfl))) hk
      · omega
    · apply Classical.byContradiction
      intro hne
      exact hk (key.2 (.inr (fun h0 => hne (UInt8.toNat_inj.1 (by rw [h0]; rfl)))))

set_option maxHeartbeats 400000 in
set_option maxRecDepth 20000 in
theorem getLeb_s (s : ByteArray) (hs : s.size ≤ maxLen) (w : World) :
    Calls Try.prog 57 #[.string s] w fun e w' => e = .returned (.tuple #[.int .i64 (getLeb s.data.toList).1, .int .i64 (getLeb s.data.toList).2.1, .bool (getLeb s.data.toList).2.2]) ∧ Below w.heap.size w w' := by
  have hs' := hs
  unfold maxLen at hs'
  cases hm : lebLen 9 s.data.toList with
  | zero =>
    have hh : lebHead s.data.toList = (0, 0) := by simp [lebHead, hm]
    have hg : getLeb s.data.toList = (0, 0, false) := by simp [getLeb, hm]
    rw [hg]
    have HH := Lib.hid hh
    clear hh hg hm
    go_enter Try.func57, Try.ntmps57
    go_wp2_with (go_at_call 74; refine (l01Leb_eq s hs _ 0 0 HH.out).mono ?_; rintro e w1 ⟨rfl, rfl⟩)
    go_quiet (fail)
    go_wp2
    go_ret3
    exact ⟨rfl, below_drewN (Below.refl _ _) _⟩
  | succ m =>
    obtain ⟨h1, h2, hg⟩ := getLeb_cases s.data.toList m hm
    have h1 : m < s.size := by simpa using h1
    have hh : lebHead s.data.toList = (lebVal (s.data.toList.take (m + 1)), m + 1) := by simp [lebHead, hm]
    have HH := Lib.hid hh
    clear hh hm
    have hlt := lebVal_lt (s.data.toList.take (m + 1))
    rw [take_len s _ (by omega)] at hlt
    have hp : (2 : Nat) ^ (7 * (m + 1)) ≤ 2 ^ 63 := Nat.pow_le_pow_right (by decide) (by omega)
    have ha : (lebVal (s.data.toList.take (m + 1)) : Int) ≤ 9223372036854775807 := by omega
    clear hlt hp
    generalize hv : lebVal (s.data.toList.take (m + 1)) = a at *
    clear hv
    have hput : putLeb (a : Int) = leb a := by rw [putLeb, if_neg (by omega), Int.toNat_natCast]
    have hex : (s.extract 0 (m + 1)).toList = s.data.toList.take (m + 1) := by rw [Lib.extract_toList]; simp
    have hI1 : (0 : Int) ≤ (m : Int) + 1 := by omega
    have hI2 : (m : Int) + 1 ≤ (s.size : Int) := by omega
    have hI3 : ((m : Int) + 1).toNat = m + 1 := by omega
    have hI4 : ((m : Int) + 1 == 0) = false := by rw [beq_eq_false_iff_ne]; omega
    by_cases hd : leb a = s.data.toList.take (m + 1)
    · rw [if_pos hd] at hg
      have hD : (putLeb ↑a == (s.extract 0 (m + 1)).toList) = true := by rw [hput, hex, hd]; simp
      rw [hg]
      clear hg hd hput hex
      go_enter Try.func57, Try.ntmps57
      go_wp2_with (go_at_call 74; refine (l01Leb_eq s hs _ a (m + 1) HH.out).mono ?_; rintro e w1 ⟨rfl, rfl⟩)
      refine wp_region_quiet_below (by kernel_rfl) (by kernel_rfl) ?_
      repeat (quiet_step (exact Calls.regrown_of (putLeb_s _ ha _)))
      refine wpQuiet_nil ?_
      intro w2 hw2
      have hb2 := below_of_regrown hw2
      clear hw2
      go_wp2
      go_ret3
      exact ⟨rfl, hb2⟩
    · rw [if_neg hd] at hg
      have hD : (putLeb ↑a == (s.extract 0 (m + 1)).toList) = false := by rw [hput, hex, beq_eq_false_iff_ne]; exact hd
      rw [hg]
      clear hg hd hput hex
      go_enter Try.func57, Try.ntmps57
      go_wp2_with (go_at_call 74; refine (l01Leb_eq s hs _ a (m + 1) HH.out).mono ?_; rintro e w1 ⟨rfl, rfl⟩)
      refine wp_region_quiet_below (by kernel_rfl) (by kernel_rfl) ?_
      repeat (quiet_step (exact Calls.regrown_of (putLeb_s _ ha _)))
      refine wpQuiet_nil ?_
      intro w2 hw2
      have hb2 := below_of_regrown hw2
      clear hw2
      go_wp2
      go_ret3
      exact ⟨rfl, hb2⟩
end Go.Proofs.Ytondfmphonnjkaa
