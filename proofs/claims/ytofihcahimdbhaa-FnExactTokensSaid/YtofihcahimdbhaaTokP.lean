/- Tokens: where words and numbers end. No program in sight. -/
import Derived.Test.YtofihcahimdbhaaNums
namespace Go.Proofs.Ytofihcahimdbhaa
open Go.RowKit Go.PlainAid

def letB (b : Int) : Bool := decide (97 ≤ b ∧ b ≤ 122)
def digB (b : Int) : Bool := decide (48 ≤ b ∧ b ≤ 57)
def alnB (b : Int) : Bool := letB b || digB b
/-- Byte i belongs to a word; to a number. -/
def wordAt (s : ByteArray) (i : Nat) : Bool := alnB (bt s i) || ((bt s i == 45) && (decide (i + 1 < s.size) && alnB (bt s (i + 1))))
def numAt (s : ByteArray) (i : Nat) : Bool := digB (bt s i) || ((bt s i == 46) && (decide (i + 1 < s.size) && digB (bt s (i + 1))))
def scanF (p : Nat → Bool) : Nat → Nat → Nat
  | 0, i => i
  | f + 1, i => if p i = true then scanF p f (i + 1) else i
/-- The first place from i on where p no longer holds, or n. -/
def scan (p : Nat → Bool) (n i : Nat) : Nat := scanF p (n - i) i
theorem scan_stop {p : Nat → Bool} {n i : Nat} (h : ¬ i < n) : scan p n i = i := by
  unfold scan
  rw [show n - i = 0 by omega]
  rfl
theorem scan_no {p : Nat → Bool} {n i : Nat} (h : i < n) (hp : p i = false) : scan p n i = i := by
  unfold scan
  obtain ⟨f, hf⟩ : ∃ f, n - i = f + 1 := ⟨n - i - 1, by omega⟩
  rw [hf, scanF, if_neg (by rw [hp]; decide)]
theorem scan_yes {p : Nat → Bool} {n i : Nat} (h : i < n) (hp : p i = true) : scan p n i = scan p n (i + 1) := by
  unfold scan
  obtain ⟨f, hf⟩ : ∃ f, n - i = f + 1 := ⟨n - i - 1, by omega⟩
  rw [hf, scanF, if_pos hp, show n - (i + 1) = f by omega]
theorem scan_le {p : Nat → Bool} {n i : Nat} (h : i ≤ n) : i ≤ scan p n i ∧ scan p n i ≤ n := by
  obtain ⟨f, hf⟩ : ∃ f, n - i = f := ⟨_, rfl⟩
  induction f generalizing i with
  | zero => rw [scan_stop (by omega)]; omega
  | succ f ih =>
    cases hp : p i
    · rw [scan_no (by omega) hp]; omega
    · rw [scan_yes (by omega) hp]
      have := ih (i := i + 1) (by omega) (by omega)
      omega
theorem word_ways (s : ByteArray) (k : Nat) : (letB (bt s k) = true ∧ wordAt s k = true) ∨ (letB (bt s k) = false ∧ digB (bt s k) = true ∧ wordAt s k = true) ∨ (letB (bt s k) = false ∧ digB (bt s k) = false ∧ (bt s k == 45) = false ∧ wordAt s k = false) ∨
    (letB (bt s k) = false ∧ digB (bt s k) = false ∧ (bt s k == 45) = true ∧ ¬ ((k : Int) + 1 < (s.size : Int)) ∧ wordAt s k = false) ∨
    (letB (bt s k) = false ∧ digB (bt s k) = false ∧ (bt s k == 45) = true ∧ (k : Int) + 1 < (s.size : Int) ∧ letB (bt s (k + 1)) = true ∧ wordAt s k = true) ∨
    (letB (bt s k) = false ∧ digB (bt s k) = false ∧ (bt s k == 45) = true ∧ (k : Int) + 1 < (s.size : Int) ∧ letB (bt s (k + 1)) = false ∧ digB (bt s (k + 1)) = true ∧ wordAt s k = true) ∨
    (letB (bt s k) = false ∧ digB (bt s k) = false ∧ (bt s k == 45) = true ∧ (k : Int) + 1 < (s.size : Int) ∧ letB (bt s (k + 1)) = false ∧ digB (bt s (k + 1)) = false ∧ wordAt s k = false) := by
  unfold wordAt alnB
  have e : decide (k + 1 < s.size) = decide ((k : Int) + 1 < (s.size : Int)) := by rw [Bool.eq_iff_iff, decide_eq_true_eq, decide_eq_true_eq]; omega
  rw [e]
  by_cases h4 : (k : Int) + 1 < (s.size : Int) <;> cases letB (bt s k) <;> cases digB (bt s k) <;> cases (bt s k == 45) <;> cases letB (bt s (k + 1)) <;> cases digB (bt s (k + 1)) <;> simp [h4]
set_option maxRecDepth 20000 in
theorem letter_s (b : Int) (w : World) : Calls Try.prog 21 #[.int .u8 b] w fun e w' => e = .returned (.bool (letB b)) ∧ w = w' := by
  by_cases h1 : 97 ≤ b <;> by_cases h2 : b ≤ 122
  all_goals
    go_enter Try.func21, Try.ntmps21
    go_wp2
    go_ret
    exact ⟨ret_eq (by simp [letB, h1, h2]), rfl⟩
set_option maxRecDepth 20000 in
theorem digit_s (b : Int) (w : World) : Calls Try.prog 23 #[.int .u8 b] w fun e w' => e = .returned (.bool (digB b)) ∧ w = w' := by
  by_cases h1 : 48 ≤ b <;> by_cases h2 : b ≤ 57
  all_goals
    go_enter Try.func23, Try.ntmps23
    go_wp2
    go_ret
    exact ⟨ret_eq (by simp [digB, h1, h2]), rfl⟩
set_option maxRecDepth 20000 in
theorem letter_i (b : Int) (w : World) : Calls Try.prog 17 #[.int .u8 b] w fun e w' => e = .returned (.bool (letB b)) ∧ w = w' := by
  by_cases h1 : 97 ≤ b <;> by_cases h2 : b ≤ 122
  all_goals
    go_enter Try.func17, Try.ntmps17
    go_wp2
    go_ret
    exact ⟨ret_eq (by simp [letB, h1, h2]), rfl⟩
set_option maxRecDepth 20000 in
theorem digit_i (b : Int) (w : World) : Calls Try.prog 19 #[.int .u8 b] w fun e w' => e = .returned (.bool (digB b)) ∧ w = w' := by
  by_cases h1 : 48 ≤ b <;> by_cases h2 : b ≤ 57
  all_goals
    go_enter Try.func19, Try.ntmps19
    go_wp2
    go_ret
    exact ⟨ret_eq (by simp [digB, h1, h2]), rfl⟩
set_option maxHeartbeats 1000000 in
set_option maxRecDepth 20000 in
theorem l05Word_s (s : ByteArray) (hs : s.size ≤ 1048576) (i : Nat) (hi : i ≤ s.size) (w : World) :
    Calls Try.prog 22 #[.string s, .int .i64 i] w fun e w' => e = .returned (.int .i64 (scan (wordAt s) s.size i)) ∧ w = w' := by
  have hbt := get_bt s
  go_enter Try.func22, Try.ntmps22
  go_wp2
  go_loopw [1] (fun j wr => ∃ k : Nat, k ≤ s.size ∧ j = .int .i64 k ∧ scan (wordAt s) s.size i = scan (wordAt s) s.size k ∧ w = wr) (fun j _ => s.size - (intOf j).toNat)
  case atStart => exact ⟨i, hi, rfl, rfl, rfl⟩
  case round =>
    obtain ⟨k, hk, rfl, hsc, rfl⟩ := hrel
    have HSC := Lib.hid hsc
    clear hsc
    by_cases hlt : k < s.size
    · have h0 : (0 : Int) ≤ (k : Int) := by omega
      have h1 : (k : Int) < (s.size : Int) := by omega
      have h2 : (0 : Int) ≤ (k : Int) + 1 := by omega
      have h3 : ((k : Int) + 1).toNat = k + 1 := by omega
      have HY := Lib.hid (fun h : wordAt s k = true => HSC.out.trans (scan_yes hlt h))
      have HN := Lib.hid (fun h : wordAt s k = false => HSC.out.trans (scan_no hlt h))
      rcases word_ways s k with ⟨hl, ho⟩ | ⟨hl, hd, ho⟩ | ⟨hl, hd, hm, ho⟩ | ⟨hl, hd, hm, h4, ho⟩ | ⟨hl, hd, hm, h4, hl2, ho⟩ | ⟨hl, hd, hm, h4, hl2, hd2, ho⟩ | ⟨hl, hd, hm, h4, hl2, hd2, ho⟩
      all_goals
        have HO := Lib.hid ho
        clear ho
        go_wp2_with (first
          | (go_at_call 21; ((with_reducible refine (letter_s (bt s k) _).mono ?_); rintro e w1 ⟨rfl, rfl⟩; rw [hl]))
          | (go_at_call 23; ((with_reducible refine (digit_s (bt s k) _).mono ?_); rintro e w1 ⟨rfl, rfl⟩; rw [hd]))
          | (go_at_call 21; ((with_reducible refine (letter_s (bt s (k + 1)) _).mono ?_); rintro e w1 ⟨rfl, rfl⟩; rw [hl2]))
          | (go_at_call 23; ((with_reducible refine (digit_s (bt s (k + 1)) _).mono ?_); rintro e w1 ⟨rfl, rfl⟩; rw [hd2])))
        first
          | (go_ret; exact ⟨ret_eq (by rw [HN.out HO.out]; try rfl), rfl⟩)
          | (go_roundw; (case rel => exact ⟨k + 1, by omega, by go_num, HY.out HO.out, by first | rfl | trivial⟩); (case measure => simp [intOf]; omega))
    · go_wp2
      go_ret
      exact ⟨ret_eq (by rw [HSC.out, scan_stop hlt]; try rfl), rfl⟩
theorem num_ways (s : ByteArray) (k : Nat) : (digB (bt s k) = true ∧ numAt s k = true) ∨ (digB (bt s k) = false ∧ (bt s k == 46) = false ∧ numAt s k = false) ∨ (digB (bt s k) = false ∧ (bt s k == 46) = true ∧ ¬ ((k : Int) + 1 < (s.size : Int)) ∧ numAt s k = false) ∨
    (digB (bt s k) = false ∧ (bt s k == 46) = true ∧ (k : Int) + 1 < (s.size : Int) ∧ digB (bt s (k + 1)) = true ∧ numAt s k = true) ∨ (digB (bt s k) = false ∧ (bt s k == 46) = true ∧ (k : Int) + 1 < (s.size : Int) ∧ digB (bt s (k + 1)) = false ∧ numAt s k = false) := by
  unfold numAt
  have e : decide (k + 1 < s.size) = decide ((k : Int) + 1 < (s.size : Int)) := by rw [Bool.eq_iff_iff, decide_eq_true_eq, decide_eq_true_eq]; omega
  rw [e]
  by_cases h4 : (k : Int) + 1 < (s.size : Int) <;> cases digB (bt s k) <;> cases (bt s k == 46) <;> cases digB (bt s (k + 1)) <;> simp [h4]
set_option maxHeartbeats 1000000 in
set_option maxRecDepth 20000 in
theorem l05Number_s (s : ByteArray) (hs : s.size ≤ 1048576) (i : Nat) (hi : i ≤ s.size) (w : World) :
    Calls Try.prog 24 #[.string s, .int .i64 i] w fun e w' => e = .returned (.int .i64 (scan (numAt s) s.size i)) ∧ w = w' := by
  have hbt := get_bt s
  go_enter Try.func24, Try.ntmps24
  go_wp2
  go_loopw [1] (fun j wr => ∃ k : Nat, k ≤ s.size ∧ j = .int .i64 k ∧ scan (numAt s) s.size i = scan (numAt s) s.size k ∧ w = wr) (fun j _ => s.size - (intOf j).toNat)
  case atStart => exact ⟨i, hi, rfl, rfl, rfl⟩
  case round =>
    obtain ⟨k, hk, rfl, hsc, rfl⟩ := hrel
    have HSC := Lib.hid hsc
    clear hsc
    by_cases hlt : k < s.size
    · have h0 : (0 : Int) ≤ (k : Int) := by omega
      have h1 : (k : Int) < (s.size : Int) := by omega
      have h2 : (0 : Int) ≤ (k : Int) + 1 := by omega
      have h3 : ((k : Int) + 1).toNat = k + 1 := by omega
      have HY := Lib.hid (fun h : numAt s k = true => HSC.out.trans (scan_yes hlt h))
      have HN := Lib.hid (fun h : numAt s k = false => HSC.out.trans (scan_no hlt h))
      rcases num_ways s k with ⟨hd, ho⟩ | ⟨hd, hm, ho⟩ | ⟨hd, hm, h4, ho⟩ | ⟨hd, hm, h4, hd2, ho⟩ | ⟨hd, hm, h4, hd2, ho⟩
      all_goals
        have HO := Lib.hid ho
        clear ho
        go_wp2_with (first
          | (go_at_call 23; ((with_reducible refine (digit_s (bt s k) _).mono ?_); rintro e w1 ⟨rfl, rfl⟩; rw [hd]))
          | (go_at_call 23; ((with_reducible refine (digit_s (bt s (k + 1)) _).mono ?_); rintro e w1 ⟨rfl, rfl⟩; rw [hd2])))
        first
          | (go_ret; exact ⟨ret_eq (by rw [HN.out HO.out]; try rfl), rfl⟩)
          | (go_roundw; (case rel => exact ⟨k + 1, by omega, by go_num, HY.out HO.out, by first | rfl | trivial⟩); (case measure => simp [intOf]; omega))
    · go_wp2
      go_ret
      exact ⟨ret_eq (by rw [HSC.out, scan_stop hlt]; try rfl), rfl⟩
end Go.Proofs.Ytofihcahimdbhaa
