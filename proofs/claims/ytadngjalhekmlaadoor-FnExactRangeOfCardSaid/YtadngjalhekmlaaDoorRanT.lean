/- The text of a range: by the reference and by the program. -/
import Derived.Test.YtadngjalhekmlaaDoorVer
import Derived.Test.YtadngjalhekmlaaDoorRanges
import Derived.Test.YtadngjalhekmlaaDoorData
import Derived.Deep.QuietTactic
import Derived.BigQuiet
namespace Go.Proofs.YtadngjalhekmlaaDoor
open Go.RowKit Go.Shelf

/-- The end of a range with a sign. -/
def belowN (c n : Nat) : Nat :=
  if c = 61 then n + 1 else if c = 126 ∨ c = 94 ∧ n < 1000000 then n / 1000 * 1000 + 1000 else if c = 94 then n / 1000000 * 1000000 + 1000000 else if c = 62 then 1000000000 else 0
theorem l02Below_s (c n : Nat) (r : Int) (hc : c = 61 ∨ c = 126 ∨ c = 94 ∨ c = 62) (hn : n ≤ 999999999) (hr : (belowN c n : Int) = r) (w : World) :
    Calls Tryd.prog 37 #[.int .u8 c, .int .i64 n] w fun e w' => e = .returned (.int .i64 r) ∧ w = w' := by
  have HR := Lib.hid hr
  clear hr
  rcases hc with rfl | rfl | rfl | rfl
  · have HE := Lib.hid (show r = (n : Int) + 1 by rw [← HR.out]; simp [belowN])
    go_enter Tryd.func37, Tryd.ntmps37
    go_wp2
    go_ret
    exact ⟨ret_eq (by rw [HE.out]; try rfl), rfl⟩
  · have HE := Lib.hid (show r = (n : Int) / 1000 * 1000 + 1000 by rw [← HR.out]; simp [belowN])
    go_enter Tryd.func37, Tryd.ntmps37
    go_wp2
    go_ret
    exact ⟨ret_eq (by rw [HE.out]; try rfl), rfl⟩
  · by_cases h : n < 1000000
    · have hi : (n : Int) < 1000000 := by omega
      have HE := Lib.hid (show r = (n : Int) / 1000 * 1000 + 1000 by rw [← HR.out]; simp [belowN, h])
      clear h
      go_enter Tryd.func37, Tryd.ntmps37
      go_wp2
      go_ret
      exact ⟨ret_eq (by rw [HE.out]; try rfl), rfl⟩
    · have hi : ¬ (n : Int) < 1000000 := by omega
      have HE := Lib.hid (show r = (n : Int) / 1000000 * 1000000 + 1000000 by rw [← HR.out]; simp [belowN, h])
      clear h
      go_enter Tryd.func37, Tryd.ntmps37
      go_wp2
      go_ret
      exact ⟨ret_eq (by rw [HE.out]; try rfl), rfl⟩
  · have HE := Lib.hid (show r = 1000000000 by rw [← HR.out]; simp [belowN])
    go_enter Tryd.func37, Tryd.ntmps37
    go_wp2
    go_ret
    exact ⟨ret_eq (by rw [HE.out]; try rfl), rfl⟩
def signS (c : Nat) : ByteArray := ⟨#[UInt8.ofNat c]⟩
theorem belowOf_i (c n : Nat) (r : Int) (s : ByteArray) (hc : c = 61 ∧ s = ⟨#[61]⟩ ∨ c = 126 ∧ s = ⟨#[126]⟩ ∨ c = 94 ∧ s = ⟨#[94]⟩ ∨ c = 62 ∧ s = ⟨#[62]⟩) (hn : n ≤ 999999999) (hr : (belowN c n : Int) = r) (w : World) :
    Calls Tryd.prog 38 #[.string s, .int .i64 n] w fun e w' => e = .returned (.int .i64 r) ∧ w = w' := by
  have HR := Lib.hid hr
  clear hr
  rcases hc with ⟨rfl, rfl⟩ | ⟨rfl, rfl⟩ | ⟨rfl, rfl⟩ | ⟨rfl, rfl⟩
  · have HE := Lib.hid (show r = (n : Int) + 1 by rw [← HR.out]; simp [belowN])
    go_enter Tryd.func38, Tryd.ntmps38
    go_wp2
    go_ret
    exact ⟨ret_eq (by rw [HE.out]; try rfl), rfl⟩
  · have HE := Lib.hid (show r = (n : Int) / 1000 * 1000 + 1000 by rw [← HR.out]; simp [belowN])
    go_enter Tryd.func38, Tryd.ntmps38
    go_wp2
    go_ret
    exact ⟨ret_eq (by rw [HE.out]; try rfl), rfl⟩
  · by_cases h : n < 1000000
    · have hi : ¬ 1000000 ≤ (n : Int) := by omega
      have HE := Lib.hid (show r = (n : Int) / 1000 * 1000 + 1000 by rw [← HR.out]; simp [belowN, h])
      clear h
      go_enter Tryd.func38, Tryd.ntmps38
      go_wp2
      go_ret
      exact ⟨ret_eq (by rw [HE.out]; try rfl), rfl⟩
    · have hi : 1000000 ≤ (n : Int) := by omega
      have HE := Lib.hid (show r = (n : Int) / 1000000 * 1000000 + 1000000 by rw [← HR.out]; simp [belowN, h])
      clear h
      go_enter Tryd.func38, Tryd.ntmps38
      go_wp2
      go_ret
      exact ⟨ret_eq (by rw [HE.out]; try rfl), rfl⟩
  · have HE := Lib.hid (show r = 1000000000 by rw [← HR.out]; simp [belowN])
    go_enter Tryd.func38, Tryd.ntmps38
    go_wp2
    go_ret
    exact ⟨ret_eq (by rw [HE.out]; try rfl), rfl⟩
/-- The text of a valid range. -/
def ranT (a b : Nat) : ByteArray :=
  if belowN 61 a = b then ⟨#[61]⟩ ++ verT a else if belowN 126 a = b then ⟨#[126]⟩ ++ verT a else if belowN 94 a = b then ⟨#[94]⟩ ++ verT a else if belowN 62 a = b then ⟨#[62]⟩ ++ verT a
  else ⟨#[62]⟩ ++ verT a ++ ⟨#[32, 60]⟩ ++ verT b
def ranOr (a b : Int) : ByteArray := if rangeOk a b = true then ranT a.toNat b.toNat else ⟨#[]⟩
theorem ranOr_yes {a b : Nat} (h : rangeOk (a : Int) (b : Int) = true) : ranOr (a : Int) (b : Int) = ranT a b := by rw [ranOr, if_pos h]; rfl
/-- Before operator i none has served. -/
def opAt (i : Nat) : Nat := if i = 0 then 61 else if i = 1 then 126 else if i = 2 then 94 else 62
def NoOp (a b i : Nat) : Prop := ∀ j, j < i → belowN (opAt j) a ≠ b
theorem ranT_hit {a b i : Nat} (hi : i < 4) (hno : NoOp a b i) (h : belowN (opAt i) a = b) : ranT a b = ⟨#[UInt8.ofNat (opAt i)]⟩ ++ verT a := by
  unfold ranT
  match i, hi with
  | 0, _ => rw [if_pos (show belowN 61 a = b from h)]; rfl
  | 1, _ => rw [if_neg (show ¬ belowN 61 a = b from hno 0 (by omega)), if_pos (show belowN 126 a = b from h)]; rfl
  | 2, _ => rw [if_neg (show ¬ belowN 61 a = b from hno 0 (by omega)), if_neg (show ¬ belowN 126 a = b from hno 1 (by omega)), if_pos (show belowN 94 a = b from h)]; rfl
  | 3, _ => rw [if_neg (show ¬ belowN 61 a = b from hno 0 (by omega)), if_neg (show ¬ belowN 126 a = b from hno 1 (by omega)), if_neg (show ¬ belowN 94 a = b from hno 2 (by omega)), if_pos (show belowN 62 a = b from h)]; rfl
theorem ranT_none {a b : Nat} (hno : NoOp a b 4) : ranT a b = ⟨#[62]⟩ ++ verT a ++ ⟨#[32, 60]⟩ ++ verT b := by
  unfold ranT
  rw [if_neg (show ¬ belowN 61 a = b from hno 0 (by omega)), if_neg (show ¬ belowN 126 a = b from hno 1 (by omega)), if_neg (show ¬ belowN 94 a = b from hno 2 (by omega)), if_neg (show ¬ belowN 62 a = b from hno 3 (by omega))]
theorem NoOp.next {a b i : Nat} (hno : NoOp a b i) (h : belowN (opAt i) a ≠ b) : NoOp a b (i + 1) := fun j hj => by
  rcases Nat.lt_or_ge j i with h1 | h1
  · exact hno j h1
  · obtain rfl : j = i := by omega
    exact h
theorem rangeOk_open {a b : Int} (h : rangeOk a b = true) : 0 ≤ a ∧ a ≤ 999999999 ∧ a + 1 ≤ b ∧ b ≤ 1000000000 := by
  unfold rangeOk at h
  rw [Bool.and_eq_true, inR_iff, inR_iff] at h
  exact ⟨h.1.1, h.1.2, h.2.1, h.2.2⟩
end Go.Proofs.YtadngjalhekmlaaDoor
