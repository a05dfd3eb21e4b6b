/- Small functions on numbers. -/
import Derived.Test.YtofihcahimdbhaaCore
namespace Go.Proofs.Ytofihcahimdbhaa
open Go.RowKit

def inR (lo n hi : Int) : Bool := decide (lo ≤ n ∧ n ≤ hi)
theorem inR_iff {lo n hi : Int} : inR lo n hi = true ↔ lo ≤ n ∧ n ≤ hi := by simp [inR]
theorem inR_not {lo n hi : Int} : inR lo n hi = false ↔ ¬ (lo ≤ n ∧ n ≤ hi) := by simp [inR]

end Go.Proofs.Ytofihcahimdbhaa
