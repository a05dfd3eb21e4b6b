/- Two ranges that are the same, by the law. -/
import Derived.Test.YtadngjalhekmlaaDoorCore
namespace Go.Proofs.YtadngjalhekmlaaDoor
open Go.RowKit

theorem eqRange_w (a b : Int) (w : World) : Calls Tryd.prog 21 #[.agg #[.int .i64 a, .int .i64 b], .agg #[.int .i64 a, .int .i64 b]] w fun e w' => e = .returned (.bool true) ∧ Below w.heap.size w w' := by
  go_enter Tryd.func21, Tryd.ntmps21
  go_wp2
  go_ret
  exact ⟨rfl, by repeat (first | exact Below.refl _ _ | refine Below.alloc ?_ (by first | omega | (simp <;> omega)) _)⟩
end Go.Proofs.YtadngjalhekmlaaDoor
