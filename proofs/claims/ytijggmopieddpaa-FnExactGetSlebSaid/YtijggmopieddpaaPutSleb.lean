/- PutSleb: what the program's and the reference's function compute, and the law. -/
import Derived.Test.YtijggmopieddpaaNums
import Derived.Test.YtijggmopieddpaaBits
namespace Go.Proofs.Ytijggmopieddpaa
open Go.RowKit

/-- The shortest signed encoding. -/
def sleb (n : Int) : List UInt8 := if n < -64 ∨ 63 < n then UInt8.ofNat ((n % 128).toNat + 128) :: sleb (n / 128) else [UInt8.ofNat (n % 128).toNat]
termination_by n.natAbs
decreasing_by omega

theorem sleb_len (d : Nat) (n : Int) (h1 : -(64 * 128 ^ d) ≤ n) (h2 : n < 64 * 128 ^ d) : (sleb n).length ≤ d + 1 := by
  induction d generalizing n with
  | zero => rw [sleb, if_neg (by omega)]; simp
  | succ d ih =>
    rw [sleb]
    split
    · have := ih (n / 128) (by rw [Int.pow_succ] at h1; omega) (by rw [Int.pow_succ] at h2; omega)
      simp; omega
    · simp

set_option maxHeartbeats 400000 in
set_option maxRecDepth 20000 in
theorem putSleb_s (m : Int) (h1 : -9223372036854775808 ≤ m) (h2 : m ≤ 9223372036854775807) (w : World) :
    Calls Try.prog 6 #[.int .i64 m] w fun e w' => e = .returned (.string ⟨(sleb m).toArray⟩) ∧ Below w.heap.size w w' := by
  go_enter Try.func6, Try.ntmps6
  go_wp2
  go_loopw [0, 3] (fun n b wr => ∃ (k : Int) (l : List UInt8), n = .int .i64 k ∧ -9223372036854775808 ≤ k ∧ k ≤ 9223372036854775807 ∧ sleb m = l ++ sleb k ∧ wr.ownsRow w.heap.size 5 1 b l.length (l.map bv) ∧ Below w.heap.size w wr)
    (fun n _ _ => (intOf n).natAbs)
  case atStart => exact ⟨m, [], rfl, h1, h2, by simp, World.ownsRow_lit _ _ _ (Nat.le_refl _) (by simp) (by simp), (Below.refl _ _).alloc (Nat.le_refl _) _⟩
  case round =>
    obtain ⟨k, l, rfl, hk1, hk2, hl, hown, hb⟩ := hrel
    have hs := hb.size
    have hl9 : l.length ≤ 9 := by
      have h1 := sleb_len 9 m (by omega) (by omega)
      have h2 := congrArg List.length hl
      have h3 : 1 ≤ (sleb k).length := by rw [sleb]; split <;> simp
      simp at h2
      omega
    have HL := Lib.hid hl
    clear hl
    have hand := i64_and127 k
    have hb1 : 0 ≤ k % 128 := by omega
    have hb2 : k % 128 < 128 := by omega
    by_cases hlt : k < -64 ∨ 63 < k
    · rcases hlt with hlt | hlt
      all_goals
        go_wp2_with (at_builtin; refine wpList_byte hown (UInt8.ofNat ((k % 128).toNat + 128)) (by simp; omega) (.tmp 11) (.tmp 16) (by omega) hb.size ?_; intro v' w' ho' hb')
        go_roundw
        case rel =>
          refine ⟨k / 128, l ++ [UInt8.ofNat ((k % 128).toNat + 128)], by go_num, by omega, by omega, ?_, ?_, hb.trans hb'⟩
          · rw [HL.out, sleb, if_pos (by omega)]; simp
          · simpa using ho'
        case measure => simp [intOf]; omega
    · have hlt1 : -64 ≤ k := by omega
      have hlt2 : k ≤ 63 := by omega
      go_wp2_with (at_builtin; refine wpList_byte hown (UInt8.ofNat (k % 128).toNat) (by simp; omega) (.tmp 20) (.tmp 24) (by omega) hb.size ?_; intro v' w' ho' hb'; have hcv := own_string ho')
      go_ret
      refine ⟨?_, hb.trans hb'⟩
      have hp : sleb m = l ++ [UInt8.ofNat (k % 128).toNat] := by
        rw [HL.out]
        congr 1
        rw [sleb, if_neg (by omega)]
      rw [hp]
      rfl
set_option maxHeartbeats 400000 in
set_option maxRecDepth 20000 in
theorem putSleb_i (m : Int) (h1 : -9223372036854775808 ≤ m) (h2 : m ≤ 9223372036854775807) (w : World) :
    Calls Try.prog 7 #[.int .i64 m] w fun e w' => e = .returned (.string ⟨(sleb m).toArray⟩) ∧ Below w.heap.size w w' := by
  go_enter Try.func7, Try.ntmps7
  go_wp2
  go_loopw [0, 3] (fun n b wr => ∃ (k : Int) (l : List UInt8), n = .int .i64 k ∧ -9223372036854775808 ≤ k ∧ k ≤ 9223372036854775807 ∧ sleb m = l ++ sleb k ∧ wr.ownsRow w.heap.size 5 1 b l.length (l.map bv) ∧ Below w.heap.size w wr)
    (fun n _ _ => (intOf n).natAbs)
  case atStart => exact ⟨m, [], rfl, h1, h2, by simp, World.ownsRow_lit _ _ _ (Nat.le_refl _) (by simp) (by simp), (Below.refl _ _).alloc (Nat.le_refl _) _⟩
  case round =>
    obtain ⟨k, l, rfl, hk1, hk2, hl, hown, hb⟩ := hrel
    have hs := hb.size
    have hl9 : l.length ≤ 9 := by
      have h1 := sleb_len 9 m (by omega) (by omega)
      have h2 := congrArg List.length hl
      have h3 : 1 ≤ (sleb k).length := by rw [sleb]; split <;> simp
      simp at h2
      omega
    have HL := Lib.hid hl
    clear hl
    have hand := i64_and127 k
    have hb1 : 0 ≤ k % 128 := by omega
    have hb2 : k % 128 < 128 := by omega
    have hor := u8_or128_right (k % 128) hb1 hb2
    by_cases hlt : k < -64 ∨ 63 < k
    · have hin : inR (-64) k 63 = false := inR_not.2 (by omega)
      go_wp2_with (first
        | (at_builtin; refine wpList_byte hown (UInt8.ofNat ((k % 128).toNat + 128)) (by simp; omega) (.tmp 8) (.tmp 13) (by omega) hb.size ?_; intro v' w' ho' hb')
        | (go_at_call 8; refine (within_any _ _ _ _).mono ?_; rintro e w1 ⟨rfl, rfl⟩))
      go_roundw
      case rel =>
          refine ⟨k / 128, l ++ [UInt8.ofNat ((k % 128).toNat + 128)], by go_num, by omega, by omega, ?_, ?_, hb.trans hb'⟩
          · rw [HL.out, sleb, if_pos (by omega)]; simp
          · simpa using ho'
      case measure => simp [intOf]; omega
    · have hin : inR (-64) k 63 = true := inR_iff.2 (by omega)
      go_wp2_with (first
        | (at_builtin; refine wpList_byte hown (UInt8.ofNat (k % 128).toNat) (by simp; omega) (.tmp 17) (.tmp 21) (by omega) hb.size ?_; intro v' w' ho' hb'; have hcv := own_string ho')
        | (go_at_call 8; refine (within_any _ _ _ _).mono ?_; rintro e w1 ⟨rfl, rfl⟩))
      go_ret
      refine ⟨?_, hb.trans hb'⟩
      have hp : sleb m = l ++ [UInt8.ofNat (k % 128).toNat] := by
        rw [HL.out]
        congr 1
        rw [sleb, if_neg (by omega)]
      rw [hp]
      rfl
end Go.Proofs.Ytijggmopieddpaa
