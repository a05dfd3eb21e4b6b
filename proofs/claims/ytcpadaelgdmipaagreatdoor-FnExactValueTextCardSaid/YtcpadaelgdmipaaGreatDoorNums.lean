/- Small functions on numbers. -/
import Derived.Test.YtcpadaelgdmipaaGreatDoorCore
namespace Go.Proofs.YtcpadaelgdmipaaGreatDoor
open Go.RowKit

def inR (lo n hi : Int) : Bool := decide (lo ≤ n ∧ n ≤ hi)
theorem inR_iff {lo n hi : Int} : inR lo n hi = true ↔ lo ≤ n ∧ n ≤ hi := by simp [inR]
theorem inR_not {lo n hi : Int} : inR lo n hi = false ↔ ¬ (lo ≤ n ∧ n ≤ hi) := by simp [inR]

theorem l00In_any (n lo hi : Int) (w : World) :
    Calls Tryz.prog 49 #[.int .i64 n, .int .i64 lo, .int .i64 hi] w fun e w' => e = .returned (.bool (inR lo n hi)) ∧ w = w' := by
  by_cases h1 : lo ≤ n <;> by_cases h2 : n ≤ hi
  all_goals
    go_enter Tryz.func49, Tryz.ntmps49
    go_wp2
    go_ret
    exact ⟨ret_eq (by simp [inR, h1, h2]), rfl⟩
theorem within_any (n lo hi : Int) (w : World) :
    Calls Tryz.prog 35 #[.int .i64 n, .int .i64 lo, .int .i64 hi] w fun e w' => e = .returned (.bool (inR lo n hi)) ∧ w = w' := by
  by_cases h1 : lo ≤ n <;> by_cases h2 : n ≤ hi
  all_goals
    go_enter Tryz.func35, Tryz.ntmps35
    go_wp2
    go_ret
    exact ⟨ret_eq (by simp [inR, h1, h2]), rfl⟩
end Go.Proofs.YtcpadaelgdmipaaGreatDoor
