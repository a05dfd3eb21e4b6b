/- PutLeb: what the program's and the reference's function compute. -/
import Derived.Test.YtondfmphonnjkaaCore
namespace Go.Proofs.Ytondfmphonnjkaa
open Go.RowKit

/-- The shortest unsigned encoding. -/
def leb (n : Nat) : List UInt8 := if n > 127 then UInt8.ofNat (n % 128 + 128) :: leb (n / 128) else [UInt8.ofNat n]
termination_by n
decreasing_by omega

theorem leb_len (d n : Nat) (h : n < 128 ^ (d + 1)) : (leb n).length ≤ d + 1 := by
  induction d generalizing n with
  | zero => rw [leb, if_neg (by omega)]; simp
  | succ d ih =>
    rw [leb]
    split
    · have := ih (n / 128) (by rw [Nat.div_lt_iff_lt_mul (by omega)]; rw [Nat.pow_succ] at h; exact h)
      simp; omega
    · simp

def putLeb (n : Int) : List UInt8 := if n < 0 then [] else leb n.toNat

set_option maxHeartbeats 400000 in
set_option maxRecDepth 20000 in
theorem putLeb_s (n : Int) (hn : n ≤ 9223372036854775807) (w : World) :
    Calls Try.prog 75 #[.int .i64 n] w fun e w' => e = .returned (.string ⟨(putLeb n).toArray⟩) ∧ Below w.heap.size w w' := by
  by_cases h0 : n < 0
  · go_enter Try.func75, Try.ntmps75
    go_wp2
    go_ret
    exact ⟨by simp [putLeb, h0], Below.refl _ _⟩
  · obtain ⟨m, rfl⟩ := Int.eq_ofNat_of_zero_le (show 0 ≤ n by omega)
    obtain ⟨i0, hi, hz0, hz1, hz2⟩ := info_parts info_u8
    go_enter Try.func75, Try.ntmps75
    go_wp2
    go_loopw [0, 3] (fun n b wr => ∃ (k : Nat) (l : List UInt8), n = .int .i64 k ∧ k ≤ m ∧ l.length + k ≤ m ∧ leb m = l ++ leb k ∧ wr.ownsRow w.heap.size 5 1 b l.length (l.map bv) ∧ Below w.heap.size w wr)
      (fun n _ _ => (intOf n).toNat)
    case atStart => exact ⟨m, [], rfl, Nat.le_refl _, by simp, by simp, World.ownsRow_lit _ _ _ (Nat.le_refl _) (by simp) (by simp), (Below.refl _ _).alloc (Nat.le_refl _) _⟩
    case round =>
      obtain ⟨k, l, rfl, hk, hlk, hl, hown, hb⟩ := hrel
      have hs := hb.size
      have hl9 : l.length ≤ 8 := by
        have h1 := leb_len 8 m (by omega)
        have h2 := congrArg List.length hl
        have h3 : 1 ≤ (leb k).length := by rw [leb]; split <;> simp
        simp at h2
        omega
      have HL := Lib.hid hl
      clear hl
      have hand := i64_and127 (k : Int)
      go_wp2_with (first
        | (at_builtin; refine wpList_byte hown (UInt8.ofNat (k % 128 + 128)) (by simp; omega) (.tmp 9) (.tmp 14) (by omega) hb.size ?_; intro v' w' ho' hb')
        | (at_builtin; go_must (refine wpList_byte hown (UInt8.ofNat k) (by simp; omega) (.tmp 18) (.tmp 21) (by omega) hb.size ?_); intro v' w' ho' hb'; have hcv := own_string ho'))
      · have hlt : 127 < (k : Int) := by assumption
        go_roundw
        case rel =>
          refine ⟨k / 128, l ++ [UInt8.ofNat (k % 128 + 128)], by go_num, by omega, ?_, ?_, ?_, hb.trans hb'⟩
          · simp; omega
          · rw [HL.out, leb, if_pos (by omega)]; simp
          · simpa using ho'
        case measure => simp [intOf]; omega
      · have hlt : (k : Int) ≤ 127 := by assumption
        go_ret
        refine ⟨?_, hb.trans hb'⟩
        have hp : putLeb m = l ++ [UInt8.ofNat k] := by
          rw [putLeb, if_neg (by omega), Int.toNat_natCast, HL.out]
          congr 1
          rw [leb, if_neg (by omega)]
        rw [hp]
        rfl
end Go.Proofs.Ytondfmphonnjkaa
