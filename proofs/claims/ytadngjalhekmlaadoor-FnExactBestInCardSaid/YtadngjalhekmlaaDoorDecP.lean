/- Plain laws: the decimal text of a small number reads back as it. -/
import Derived.Test.YtadngjalhekmlaaDoorNumP
import Derived.Lib.ParseIntBCases
namespace Go.Proofs.YtadngjalhekmlaaDoor
open Go.RowKit

theorem dig_nat {k : Nat} (h : k < 10) : (UInt8.ofNat (48 + k)).toNat = 48 + k := UInt8.toNat_ofNat_of_lt' (show 48 + k < 256 by omega)
theorem dec_list (n : Nat) (h : n ≤ 999) : Lib.decDigits n = (if n < 10 then [UInt8.ofNat (48 + n)] else if n < 100 then [UInt8.ofNat (48 + n / 10), UInt8.ofNat (48 + n % 10)] else [UInt8.ofNat (48 + n / 100), UInt8.ofNat (48 + n / 10 % 10), UInt8.ofNat (48 + n % 10)]) := by
  by_cases h1 : n < 10
  · rw [Lib.decDigits, dif_pos h1, if_pos h1]
  rw [if_neg h1, Lib.decDigits, dif_neg h1]
  by_cases h2 : n < 100
  · rw [if_pos h2, Lib.decDigits, dif_pos (by omega)]; rfl
  rw [if_neg h2, Lib.decDigits, dif_neg (by omega), Lib.decDigits, dif_pos (by omega), show n / 10 / 10 = n / 100 by omega]; rfl
theorem pm_step (M acc k : Nat) (r : List UInt8) (hk : k < 10) (ha : acc ≤ 1000000) (hM : 100000000 ≤ M) : Lib.parseUintM M acc (UInt8.ofNat (48 + k) :: r) = Lib.parseUintM M (acc * 10 + k) r := by
  rw [Lib.parseUintM, dig_nat hk, if_pos (by omega), if_neg (by omega), if_neg (by omega), show 48 + k - 48 = k by omega]
theorem pi_step (k : Nat) (r : List UInt8) (hk : k < 10) (n : Nat) (hn : n ≤ 999) (h : Lib.parseUintM (2 ^ 64 - 1) k r = .ok n) : Lib.parseIntB 64 (UInt8.ofNat (48 + k) :: r) = .ok (n : Int) := by
  rw [Lib.parseIntB_plain 64 _ r (by rw [dig_nat hk]; omega) (by rw [dig_nat hk]; omega), Lib.parseUintB, if_neg (by simp), pm_step _ _ _ _ hk (by omega) (by decide), Nat.zero_mul, Nat.zero_add, h]
  unfold Lib.signlessC
  simp
  omega
theorem parse_dec (n : Nat) (h : n ≤ 999) : Lib.parseIntB 64 (Lib.decDigits n) = .ok (n : Int) := by
  rw [dec_list n h]
  by_cases h1 : n < 10
  · rw [if_pos h1]
    exact pi_step n [] h1 n h rfl
  rw [if_neg h1]
  by_cases h2 : n < 100
  · rw [if_pos h2]
    exact pi_step (n / 10) _ (by omega) n h (by rw [pm_step _ _ _ _ (by omega) (by omega) (by decide), Lib.parseUintM]; congr 1; omega)
  rw [if_neg h2]
  exact pi_step (n / 100) _ (by omega) n h (by rw [pm_step _ _ _ _ (by omega) (by omega) (by decide), pm_step _ _ _ _ (by omega) (by omega) (by decide), Lib.parseUintM]; congr 1; omega)
/-- What readDecimal says of a text. -/
def IsDec (s : ByteArray) (n : Int) (ok : Bool) : Prop := (ok = true → 0 ≤ n → n ≤ 999 → s = decT n.toNat) ∧ ∀ k : Nat, k ≤ 999 → s = decT k → n = (k : Int) ∧ ok = true
end Go.Proofs.YtadngjalhekmlaaDoor
