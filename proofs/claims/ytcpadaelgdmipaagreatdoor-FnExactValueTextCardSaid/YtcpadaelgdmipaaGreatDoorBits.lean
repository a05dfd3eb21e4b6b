/- Laws on the bits of integers: an 'or' of parts that do not overlap is a sum. -/
import Derived.Test.YtcpadaelgdmipaaGreatDoorCore
namespace Go.Proofs.YtcpadaelgdmipaaGreatDoor
open Go.RowKit

theorem wrap_emod (k : IntKind) (x : Int) : k.wrap x % 2 ^ k.bits = x % 2 ^ k.bits := by
  unfold IntKind.wrap
  dsimp only
  split
  · rw [Int.sub_emod_right, Int.emod_emod]
  · rw [Int.emod_emod]

theorem wrap_of_emod (k : IntKind) {x y : Int} (h : x % 2 ^ k.bits = y % 2 ^ k.bits) : k.wrap x = k.wrap y := by
  unfold IntKind.wrap
  rw [h]

theorem wrap_wrap (k : IntKind) (x : Int) : k.wrap (k.wrap x) = k.wrap x := wrap_of_emod k (wrap_emod k x)

theorem ofInt_of_emod {n : Nat} {x y : Int} (h : x % 2 ^ n = y % 2 ^ n) : BitVec.ofInt n x = BitVec.ofInt n y := by
  apply BitVec.eq_of_toNat_eq
  rw [BitVec.toNat_ofInt, BitVec.toNat_ofInt]
  have e : ((2 ^ n : Nat) : Int) = 2 ^ n := by simp
  rw [e, h]

theorem bits_or_apart (k : IntKind) (n : Nat) (a b : Int) (hn : n ≤ k.bits) (ha : a % 2 ^ k.bits < 2 ^ n) (hb : b % 2 ^ n = 0) : bits .or k a b = k.wrap (a + b) := by
  have e : ((2 ^ k.bits : Nat) : Int) = 2 ^ k.bits := by simp
  have h0 : BitVec.ofInt k.bits a &&& BitVec.ofInt k.bits b = 0#k.bits := by
    apply BitVec.eq_of_getLsbD_eq
    intro i hi
    rw [BitVec.getLsbD_and, BitVec.getLsbD_zero]
    by_cases h : i < n
    · have : (BitVec.ofInt k.bits b).getLsbD i = false := by
        rw [BitVec.getLsbD, BitVec.toNat_ofInt, e]
        have hdvd : (2 ^ n : Nat) ∣ (b % 2 ^ k.bits).toNat := by
          have h1 : (2 ^ n : Int) ∣ b % 2 ^ k.bits := by
            rw [Int.dvd_iff_emod_eq_zero, Int.emod_emod_of_dvd _ (⟨2 ^ (k.bits - n), by rw [← Int.pow_add]; congr 1; omega⟩ : (2 ^ n : Int) ∣ 2 ^ k.bits)]
            exact hb
          have h2 : 0 ≤ b % 2 ^ k.bits := Int.emod_nonneg _ (by have : (0 : Int) < 2 ^ k.bits := Int.pow_pos (by decide); omega)
          obtain ⟨c, hc⟩ := h1
          have hp : (0 : Int) < 2 ^ n := Int.pow_pos (by decide)
          have hc0 : 0 ≤ c := by
            rcases Int.lt_or_le c 0 with hneg | hpos
            · have := Int.mul_neg_of_pos_of_neg hp hneg
              omega
            · exact hpos
          refine ⟨c.toNat, ?_⟩
          rw [hc, Int.toNat_mul (Int.le_of_lt hp) hc0]
          congr 1
        obtain ⟨c, hc⟩ := hdvd
        rw [hc, Nat.testBit_two_pow_mul]
        simp; omega
      simp [this]
    · have : (BitVec.ofInt k.bits a).getLsbD i = false := by
        rw [BitVec.getLsbD, BitVec.toNat_ofInt, e]
        apply Nat.testBit_lt_two_pow
        have h1 : (2 : Nat) ^ n ≤ 2 ^ i := Nat.pow_le_pow_right (by decide) (by omega)
        have h2 : ((2 ^ n : Nat) : Int) = 2 ^ n := by simp
        have h3 : 0 ≤ a % 2 ^ k.bits := Int.emod_nonneg _ (by have : (0 : Int) < 2 ^ k.bits := Int.pow_pos (by decide); omega)
        omega
      simp [this]
  have hor : BitVec.ofInt k.bits a ||| BitVec.ofInt k.bits b = BitVec.ofInt k.bits (a + b) := by
    rw [← BitVec.add_eq_or_of_and_eq_zero _ _ h0, BitVec.ofInt_add]
  show k.wrap ((BitVec.ofInt k.bits a ||| BitVec.ofInt k.bits b).toNat : Int) = _
  rw [hor, BitVec.toNat_ofInt, e]
  apply wrap_of_emod
  have h3 : 0 ≤ (a + b) % 2 ^ k.bits := Int.emod_nonneg _ (by have : (0 : Int) < 2 ^ k.bits := Int.pow_pos (by decide); omega)
  rw [Int.toNat_of_nonneg h3, Int.emod_emod]
theorem i64_wrap (x : Int) : IntKind.i64.wrap x = wrap64 x := by rw [IntKind.wrap_i64]; simp only [wrap64]
theorem wrap64_of_emod {x y : Int} (h : x % 18446744073709551616 = y % 18446744073709551616) : wrap64 x = wrap64 y := by
  rw [← i64_wrap, ← i64_wrap]; exact wrap_of_emod .i64 h
theorem wrap64_emod (x : Int) : wrap64 x % 18446744073709551616 = x % 18446744073709551616 := by
  rw [← i64_wrap]; exact wrap_emod .i64 x
theorem wrap64_mod_pow (x : Int) (n : Nat) (hn : n ≤ 64) : wrap64 x % 2 ^ n = x % 2 ^ n := by
  have hd : (2 ^ n : Int) ∣ 18446744073709551616 := ⟨2 ^ (64 - n), by rw [← Int.pow_add, show n + (64 - n) = 64 by omega]; rfl⟩
  rw [← Int.emod_emod_of_dvd _ hd, wrap64_emod, Int.emod_emod_of_dvd _ hd]
theorem wrap64_add (x y : Int) : wrap64 (wrap64 x + wrap64 y) = wrap64 (x + y) := by
  apply wrap64_of_emod
  rw [Int.add_emod, wrap64_emod, wrap64_emod, ← Int.add_emod]
theorem or_i64_apart (n : Nat) (a b : Int) (hn : n ≤ 64) (ha : a % 18446744073709551616 < 2 ^ n) (hb : b % 2 ^ n = 0) : bits .or .i64 a b = wrap64 (a + b) := by
  rw [bits_or_apart .i64 n a b hn ha hb, i64_wrap]
end Go.Proofs.YtcpadaelgdmipaaGreatDoor
