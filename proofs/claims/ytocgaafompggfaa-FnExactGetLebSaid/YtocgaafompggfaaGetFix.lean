/- GetFix. -/
import Derived.Test.YtocgaafompggfaaNums
import Derived.Test.YtocgaafompggfaaBits
namespace Go.Proofs.Ytocgaafompggfaa
open Go.RowKit

/-- The number whose digits to base 256 are these, the least significant first. -/
def fixVal : List UInt8 → Nat
  | [] => 0
  | c :: r => c.toNat + 256 * fixVal r

theorem fixVal_snoc (l : List UInt8) (c : UInt8) : fixVal (l ++ [c]) = fixVal l + c.toNat * 2 ^ (8 * l.length) := by
  induction l with
  | nil => simp [fixVal]
  | cons d r ih =>
    have e : 8 * (r.length + 1) = 8 * r.length + 8 := by omega
    simp only [List.cons_append, fixVal, ih, List.length_cons, e, Nat.pow_add, ← Nat.mul_assoc]
    omega
theorem fixVal_lt (l : List UInt8) : fixVal l < 2 ^ (8 * l.length) := by
  induction l with
  | nil => simp [fixVal]
  | cons d r ih =>
    have e : 8 * (r.length + 1) = 8 * r.length + 8 := by omega
    have := d.toNat_lt
    simp only [fixVal, List.length_cons, e, Nat.pow_add]
    omega
theorem take_snoc (s : ByteArray) (k : Nat) (h : k < s.size) : s.data.toList.take (k + 1) = s.data.toList.take k ++ [s[k]] := by
  rw [List.take_succ_eq_append_getElem (by simpa using h)]; rfl
theorem take_len (s : ByteArray) (k : Nat) (h : k ≤ s.size) : (s.data.toList.take k).length = k := by
  rw [List.length_take]; have : s.data.toList.length = s.size := by simp
  omega
theorem take_all (s : ByteArray) (k : Nat) (h : k = s.size) : s.data.toList.take k = s.data.toList := List.take_of_length_le (by simp [h])

theorem fix_step_u (s : ByteArray) (k : Nat) (h : k < s.size) (h8 : k < 8) :
    bits .or .u64 (fixVal (s.data.toList.take k)) (IntKind.u64.wrap (IntKind.u64.wrap (s[k].toNat : Int) * 2 ^ (8 * k))) = (fixVal (s.data.toList.take (k + 1)) : Int) := by
  have h1 := fixVal_lt (s.data.toList.take k)
  have h2 := fixVal_lt (s.data.toList.take (k + 1))
  rw [take_len s _ (by omega)] at h1 h2
  have h3 := fixVal_snoc (s.data.toList.take k) s[k]
  rw [← take_snoc s k h, take_len s _ (by omega)] at h3
  have hc := s[k].toNat_lt
  generalize s[k].toNat = c at *
  generalize fixVal (s.data.toList.take k) = a at *
  generalize fixVal (s.data.toList.take (k + 1)) = b at *
  have hp : (2 : Nat) ^ (8 * (k + 1)) ≤ 2 ^ 64 := Nat.pow_le_pow_right (by decide) (by omega)
  have e1 : IntKind.u64.wrap (c : Int) = c := by rw [IntKind.wrap_u64]; omega
  have e2 : IntKind.u64.wrap ((c : Int) * 2 ^ (8 * k)) = ((c * 2 ^ (8 * k) : Nat) : Int) := by
    rw [IntKind.wrap_u64]
    push_cast
    have : ((c * 2 ^ (8 * k) : Nat) : Int) < 18446744073709551616 := by omega
    push_cast at this
    have h0 : (0 : Int) ≤ (c : Int) * 2 ^ (8 * k) := by
      have : ((c * 2 ^ (8 * k) : Nat) : Int) ≥ 0 := by omega
      push_cast at this; exact this
    omega
  rw [e1, e2, bits_or_apart .u64 (8 * k) _ _ (by show _ ≤ 64; omega)]
  · have e : (a : Int) + ((c * 2 ^ (8 * k) : Nat) : Int) = (b : Int) := by rw [h3]; push_cast; rfl
    rw [e, IntKind.wrap_u64]
    omega
  · have h4 : (a : Int) < 2 ^ (8 * k) := by exact_mod_cast h1
    have : (a : Int) % 2 ^ IntKind.u64.bits = a := by
      show (a : Int) % 2 ^ 64 = a
      omega
    rw [this]; exact h4
  · push_cast
    exact Int.mul_emod_left _ _

theorem fix_step_i (s : ByteArray) (k : Nat) (h : k < s.size) (h8 : k < 8) :
    bits .or .i64 (wrap64 (fixVal (s.data.toList.take k))) (wrap64 (wrap64 (s[k].toNat : Int) * 2 ^ (8 * k))) = wrap64 (fixVal (s.data.toList.take (k + 1)) : Int) := by
  have h1 := fixVal_lt (s.data.toList.take k)
  rw [take_len s _ (by omega)] at h1
  have h3 := fixVal_snoc (s.data.toList.take k) s[k]
  rw [← take_snoc s k h, take_len s _ (by omega)] at h3
  have hc := s[k].toNat_lt
  rw [h3]
  generalize s[k].toNat = c at *
  generalize fixVal (s.data.toList.take k) = a at *
  have hp : (2 : Nat) ^ (8 * k) ≤ 2 ^ 64 := Nat.pow_le_pow_right (by decide) (by omega)
  have e1 : wrap64 (c : Int) = c := by simp only [wrap64]; omega
  have h4 : (a : Int) < 2 ^ (8 * k) := by exact_mod_cast h1
  have h5 : (a : Int) < 18446744073709551616 := by omega
  rw [e1, or_i64_apart (8 * k) _ _ (by omega), wrap64_add]
  · push_cast; rfl
  · rw [wrap64_emod]
    omega
  · rw [wrap64_mod_pow _ _ (by omega)]
    exact Int.mul_emod_left _ _

def getFix (s : ByteArray) : Int := if s.size ≤ 8 then wrap64 (fixVal s.data.toList) else 0

theorem getFix_i (s : ByteArray) (hs : s.size ≤ maxLen) (w : World) :
    Calls Try.prog 21 #[.string s] w fun e w' => e = .returned (.int .i64 (getFix s)) ∧ w = w' := by
  unfold maxLen at hs
  by_cases h8 : s.size ≤ 8
  · go_enter Try.func21, Try.ntmps21
    go_wp2
    go_loop [3, 4, 10] (fun n j i => ∃ k : Nat, k ≤ s.size ∧ i = .int .i64 k ∧ n = .int .u64 (fixVal (s.data.toList.take k))) (fun _ _ i => s.size - (intOf i).toNat)
    case atStart => exact ⟨0, Nat.zero_le _, rfl, rfl⟩
    case round =>
      obtain ⟨k, hk, rfl, rfl⟩ := hrel
      by_cases hlt : k < s.size
      · have H := Lib.hid (fix_step_u s k hlt (by omega))
        go_wp2
        go_round
        case rel => exact ⟨k + 1, by omega, by go_num, by rw [H.out]⟩
        case measure => simp [intOf]; omega
      · go_wp2
        go_ret
        refine ⟨ret_eq ?_, rfl⟩
        show Value.int _ _ = _
        rw [take_all s k (by omega), getFix, if_pos h8]
  · go_enter Try.func21, Try.ntmps21
    go_wp2
    go_ret
    refine ⟨ret_eq ?_, rfl⟩
    rw [getFix, if_neg h8]
    rfl
theorem getFix_s (s : ByteArray) (hs : s.size ≤ maxLen) (w : World) :
    Calls Try.prog 20 #[.string s] w fun e w' => e = .returned (.int .i64 (getFix s)) ∧ w = w' := by
  unfold maxLen at hs
  by_cases h8 : s.size ≤ 8
  · go_enter Try.func20, Try.ntmps20
    go_wp2
    go_loop [3, 4] (fun n i => ∃ k : Nat, k ≤ s.size ∧ i = .int .i64 k ∧ n = .int .i64 (wrap64 (fixVal (s.data.toList.take k)))) (fun _ i => s.size - (intOf i).toNat)
    case atStart => exact ⟨0, Nat.zero_le _, rfl, by simp [fixVal, wrap64]⟩
    case round =>
      obtain ⟨k, hk, rfl, rfl⟩ := hrel
      by_cases hlt : k < s.size
      · have H := Lib.hid (fix_step_i s k hlt (by omega))
        go_wp2
        go_round
        case rel => exact ⟨k + 1, by omega, by go_num, by rw [H.out]⟩
        case measure => simp [intOf]; omega
      · go_wp2
        go_ret
        refine ⟨ret_eq ?_, rfl⟩
        show Value.int _ _ = _
        rw [take_all s k (by omega), getFix, if_pos h8]
  · go_enter Try.func20, Try.ntmps20
    go_wp2
    go_loop [3, 4] (fun n i => i = .int .i64 0 ∧ n = .int .i64 0) (fun _ _ => 0)
    case atStart => exact ⟨rfl, rfl⟩
    case round =>
      obtain ⟨rfl, rfl⟩ := hrel
      go_wp2
      go_ret
      refine ⟨ret_eq ?_, rfl⟩
      rw [getFix, if_neg h8]
      rfl
theorem law_FnExactGetFix (s : ByteArray) (hs : s.size ≤ maxLen) (w : World) :
    Calls Try.prog 6 #[.string s] w fun e w' => e = .returned (.bool true) ∧ Below w.heap.size w w' := by
  by_cases hb : s.size ≤ 1048576
  all_goals
    go_enter Try.func6, Try.ntmps6
    go_wp2_with (first
      | (go_at_call 20; refine (getFix_s _ hs _).mono ?_; rintro e w1 ⟨rfl, rfl⟩)
      | (go_at_call 21; refine (getFix_i _ hs _).mono ?_; rintro e w1 ⟨rfl, rfl⟩))
    go_ret
    exact ⟨rfl, Below.refl _ _⟩
end Go.Proofs.Ytocgaafompggfaa
