/- GetHex: the law. -/
import Derived.Test.YtokppmhihghapaaGetHex
namespace Go.Proofs.Ytokppmhihghapaa
open Go.RowKit
theorem law_FnExactGetHex (s : ByteArray) (_ : s.size ≤ maxLen) (w : World) :
    Calls Try.prog 5 #[.string s] w fun e w' => e = .returned (.bool true) ∧ Below w.heap.size w w' := by
  by_cases hb : s.size ≤ 1048576
  · go_enter Try.func5, Try.ntmps5
    go_wp2_with (first
      | (go_at_call 20; refine (getHex_s s hb _).mono ?_; rintro e w1 ⟨rfl, hb1⟩)
      | (go_at_call 21; refine (getHex_i s hb _).mono ?_; rintro e w2 ⟨rfl, hb2⟩))
    go_ret
    exact ⟨rfl, hb1.trans (hb2.mono hb1.size)⟩
  · go_enter Try.func5, Try.ntmps5
    go_wp2
    go_ret
    exact ⟨rfl, Below.refl _ _⟩
end Go.Proofs.Ytokppmhihghapaa
