/- NameOk: the law. -/
import Derived.Test.YtocgaafompggfaaNameOk
namespace Go.Proofs.Ytocgaafompggfaa
open Go.RowKit
theorem nameOk_s (s : ByteArray) (hs : s.size ≤ maxLen) (w : World) :
    Calls Try.prog 34 #[.string s] w fun e w' => e = .returned (.bool (nameOk s)) ∧ w = w' := by
  go_enter Try.func34, Try.ntmps34
  go_wp2_with (go_at_call 43; refine (l03Name_s s hs _).mono ?_; rintro e w1 ⟨rfl, rfl⟩)
  go_ret
  exact ⟨rfl, rfl⟩
theorem law_FnExactNameOk (s : ByteArray) (hs : s.size ≤ maxLen) (w : World) :
    Calls Try.prog 13 #[.string s] w fun e w' => e = .returned (.bool true) ∧ Below w.heap.size w w' := by
  by_cases hb : s.size ≤ 1048576
  all_goals
    go_enter Try.func13, Try.ntmps13
    go_wp2_with (first
      | (go_at_call 34; refine (nameOk_s s hs _).mono ?_; rintro e w1 ⟨rfl, rfl⟩)
      | (go_at_call 35; refine (nameOk_i s hs _).mono ?_; rintro e w2 ⟨rfl, hb2⟩))
    go_ret
    exact ⟨rfl, by first | exact hb2 | exact Below.refl _ _⟩
end Go.Proofs.Ytocgaafompggfaa
