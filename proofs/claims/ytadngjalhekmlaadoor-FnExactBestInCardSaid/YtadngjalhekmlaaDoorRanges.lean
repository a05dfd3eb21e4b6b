/- RangeOk: what the program's and the reference's function compute. -/
import Derived.Test.YtadngjalhekmlaaDoorNums
import Derived.Lib.SmallJoins
namespace Go.Proofs.YtadngjalhekmlaaDoor
open Go.RowKit Go.ChangeShapes Go.WideShapes

def rangeOk (a b : Int) : Bool := inR 0 a 999999999 && inR (a + 1) b 1000000000

theorem rangeOk_s (a b : Int) (w : World) : -9223372036854775808 ≤ a → a ≤ 9223372036854775807 →
    Calls Tryd.prog 33 #[.agg #[.int .i64 a, .int .i64 b]] w fun e w' => e = .returned (.bool (rangeOk a b)) ∧ Below w.heap.size w w' := by
  intro ha1 ha2
  by_cases h : inR 0 a 999999999 = true
  · have h' := inR_iff.1 h
    go_enter Tryd.func33, Tryd.ntmps33
    go_wp2_with (go_at_call 49; refine (l00In_any _ _ _ _).mono ?_; rintro e w1 ⟨rfl, rfl⟩)
    go_ret
    exact ⟨ret_eq (by simp [rangeOk, h]), (Below.refl _ _).alloc (Nat.le_refl _) _⟩
  · go_enter Tryd.func33, Tryd.ntmps33
    go_wp2_with (go_at_call 49; refine (l00In_any _ _ _ _).mono ?_; rintro e w1 ⟨rfl, rfl⟩)
    go_ret
    exact ⟨ret_eq (by simp [rangeOk, h]), (Below.refl _ _).alloc (Nat.le_refl _) _⟩
theorem rangeOk_i (a b : Int) (w : World) : -9223372036854775808 ≤ a → a ≤ 9223372036854775807 →
    Calls Tryd.prog 34 #[.agg #[.int .i64 a, .int .i64 b]] w fun e w' => e = .returned (.bool (rangeOk a b)) ∧ Below w.heap.size w w' := by
  intro ha1 ha2
  by_cases h : inR 0 a 999999999 = true
  · have h' := inR_iff.1 h
    go_enter Tryd.func34, Tryd.ntmps34
    go_wp2_with (go_at_call 35; refine (within_any _ _ _ _).mono ?_; rintro e w1 ⟨rfl, rfl⟩)
    go_ret
    exact ⟨ret_eq (by simp [rangeOk, h]), (Below.refl _ _).alloc (Nat.le_refl _) _⟩
  · go_enter Tryd.func34, Tryd.ntmps34
    go_wp2_with (go_at_call 35; refine (within_any _ _ _ _).mono ?_; rintro e w1 ⟨rfl, rfl⟩)
    go_ret
    exact ⟨ret_eq (by simp [rangeOk, h]), (Below.refl _ _).alloc (Nat.le_refl _) _⟩
theorem toRange_w (a b : Int) (w : World) :
    Calls Tryd.prog 15 #[.agg #[.int .i64 a, .int .i64 b]] w fun e w' => e = .returned (.agg #[.int .i64 a, .int .i64 b]) ∧ Below w.heap.size w w' := by
  go_enter Tryd.func15, Tryd.ntmps15
  go_wp2
  exact bodyPost_ret (v := .agg #[.int .i64 a, .int .i64 b]) (by simp [results, Tryd.results15, go_sem]) rfl
    ⟨rfl, by repeat (first | exact Below.refl _ _ | refine Below.alloc ?_ (by simp <;> omega) _)⟩
end Go.Proofs.YtadngjalhekmlaaDoor
