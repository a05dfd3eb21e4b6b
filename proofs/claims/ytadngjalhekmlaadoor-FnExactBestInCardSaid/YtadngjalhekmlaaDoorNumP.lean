/- Plain laws of a version's number: what a reading of the digits and dots gives. -/
import Derived.Test.YtadngjalhekmlaaDoorVer
import Derived.PlainAid
namespace Go.Proofs.YtadngjalhekmlaaDoor
open Go.RowKit Go.PlainAid

theorem w64 (x : Int) (h : -9223372036854775808 ≤ x ∧ x ≤ 9223372036854775807) : wrap64 x = x := by unfold wrap64; omega
/-- One byte more: the sum so far, the part, the dots. -/
def stepV : Option (Int × Nat × Nat) → UInt8 → Option (Int × Nat × Nat)
  | none, _ => none
  | some (t, p, d), c => if c.toNat = 46 then some (wrap64 (wrap64 (t + p) * 1000), 0, d + 1) else if c.toNat < 48 ∨ 57 < c.toNat then none else some (t, 10 * p + (c.toNat - 48), d)
def stV (l : List UInt8) : Option (Int × Nat × Nat) := l.foldl stepV (some (0, 0, 0))
theorem step_none : ∀ l : List UInt8, l.foldl stepV none = none
  | [] => rfl
  | _ :: l => step_none l
theorem step_dec (t : Int) (d : Nat) : ∀ n : Nat, (Lib.decDigits n).foldl stepV (some (t, 0, d)) = some (t, n, d) := by
  intro n
  induction n using Nat.strongRecOn with
  | ind n ih =>
    rw [Lib.decDigits]
    have h8 : ∀ k, k < 10 → (UInt8.ofNat (48 + k)).toNat = 48 + k := fun k hk => UInt8.toNat_ofNat_of_lt' (show 48 + k < 256 by omega)
    by_cases h : n < 10
    · rw [dif_pos h]
      simp only [List.foldl_cons, List.foldl_nil, stepV]
      rw [h8 n h, if_neg (by omega), if_neg (by omega)]
      congr 2
      simp
    · rw [dif_neg h, List.foldl_append, ih (n / 10) (by omega)]
      simp only [List.foldl_cons, List.foldl_nil, stepV]
      rw [h8 _ (Nat.mod_lt _ (by decide)), if_neg (by omega), if_neg (by omega)]
      congr 3
      omega
theorem stV_ver (m : Nat) (hm : m ≤ 999999999) : stV (verT m).data.toList = some (((m / 1000 * 1000 : Nat) : Int), m % 1000, 2) := by
  have e : (verT m).data.toList = Lib.decDigits (m / 1000000) ++ [46] ++ Lib.decDigits (m / 1000 % 1000) ++ [46] ++ Lib.decDigits (m % 1000) := by simp [verT, decT]
  have h46 : (46 : UInt8).toNat = 46 := rfl
  rw [e, stV, List.foldl_append, List.foldl_append, List.foldl_append, List.foldl_append, step_dec]
  simp only [List.foldl_cons, List.foldl_nil, stepV, h46, if_true]
  rw [step_dec]
  simp only [h46, if_true]
  rw [step_dec]
  congr 2
  rw [w64 (0 + ((m / 1000000 : Nat) : Int)) (by omega), w64 ((0 + ((m / 1000000 : Nat) : Int)) * 1000) (by omega), w64 ((0 + ((m / 1000000 : Nat) : Int)) * 1000 + ((m / 1000 % 1000 : Nat) : Int)) (by omega), w64 _ (by omega)]
  omega
theorem ver_inj {m n : Nat} (hm : m ≤ 999999999) (hn : n ≤ 999999999) (h : verT m = verT n) : m = n := by
  have h1 := stV_ver m hm
  rw [h, stV_ver n hn] at h1
  simp only [Option.some.injEq, Prod.mk.injEq] at h1
  omega
theorem dec3_size (n : Nat) (h : n ≤ 999) : (decT n).size ≤ 3 := by
  by_cases h1 : n < 10
  · rw [decT_small h1]; exact (by decide : 1 ≤ 3)
  · rw [decT_big h1, ByteArray.size_append]
    have e : (ByteArray.mk #[UInt8.ofNat (48 + n % 10)]).size = 1 := rfl
    by_cases h2 : n / 10 < 10
    · rw [decT_small h2]
      have e2 : (ByteArray.mk #[UInt8.ofNat (48 + n / 10)]).size = 1 := rfl
      omega
    · rw [decT_big h2, decT_small (show n / 10 / 10 < 10 by omega), ByteArray.size_append]
      have e2 : (ByteArray.mk #[UInt8.ofNat (48 + n / 10 % 10)]).size = 1 := rfl
      have e3 : (ByteArray.mk #[UInt8.ofNat (48 + n / 10 / 10)]).size = 1 := rfl
      omega
theorem ver_size (m : Nat) (hm : m ≤ 999999999) : (verT m).size ≤ 11 := by
  have h1 := dec3_size (m / 1000000) (by omega)
  have h2 := dec3_size (m / 1000 % 1000) (by omega)
  have h3 := dec3_size (m % 1000) (by omega)
  unfold verT
  simp only [ByteArray.size_append]
  have e : (ByteArray.mk #[46]).size = 1 := rfl
  omega
/-- r is the number of the version s; -1: s is none. -/
def IsNum (s : ByteArray) (r : Int) : Prop := (r = -1 ∧ ∀ m : Nat, m ≤ 999999999 → s ≠ verT m) ∨ ∃ m : Nat, m ≤ 999999999 ∧ r = (m : Int) ∧ s = verT m
theorem IsNum.eq {s : ByteArray} {r q : Int} (h : IsNum s r) (k : IsNum s q) : r = q := by
  rcases h with ⟨rfl, h⟩ | ⟨m, hm, rfl, h⟩
  · rcases k with ⟨rfl, _⟩ | ⟨n, hn, _, k⟩
    · rfl
    · exact absurd k (h n hn)
  · rcases k with ⟨_, k⟩ | ⟨n, hn, rfl, k⟩
    · exact absurd h (k m hm)
    · rw [ver_inj hm hn (h.symm.trans k)]
end Go.Proofs.YtadngjalhekmlaaDoor
