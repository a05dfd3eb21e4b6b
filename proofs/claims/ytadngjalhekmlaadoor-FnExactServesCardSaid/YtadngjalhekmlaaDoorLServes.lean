/- Serves: the law's walk. -/
import Derived.Test.YtadngjalhekmlaaDoorServes
namespace Go.Proofs.YtadngjalhekmlaaDoor
open Go.RowKit Go.Shelf

set_option maxHeartbeats 1000000 in
set_option maxRecDepth 20000 in
theorem law_FnExactServes (a : ByteArray) (_wa : a.data.toList.length ≤ maxLen) (b : ByteArray) (_wb : b.data.toList.length ≤ maxLen) (w : World) (ht : VerW w) :
    Calls Tryd.prog 4 #[.string a, .string b] w fun e w' => e = .returned (.bool true) ∧ Below w.heap.size w w' := by
  have HT := Lib.hid ht
  clear ht
  by_cases h : (1048576 : Int) < (a.size : Int)
  · go_enter Tryd.func4, Tryd.ntmps4
    go_wp2
    go_ret
    exact ⟨rfl, Below.refl _ _⟩
  · by_cases h2 : (1048576 : Int) < (b.size : Int)
    · go_enter Tryd.func4, Tryd.ntmps4
      go_wp2
      go_ret
      exact ⟨rfl, Below.refl _ _⟩
    · go_enter Tryd.func4, Tryd.ntmps4
      go_wp2_with fail
      refine (serves_s a b (by omega) (by omega) _).mono ?_
      rintro e w1 ⟨rfl, hb1⟩
      go_wp2_with fail
      refine (serves_i a b (by omega) (by omega) _ (HT.out.below hb1)).mono ?_
      rintro e w2 ⟨rfl, hb2⟩
      have B2 := hb1.trans (hb2.mono hb1.size)
      clear hb1 hb2
      cases servs a b
      all_goals
        go_wp2
        go_ret
        exact ⟨rfl, B2⟩
end Go.Proofs.YtadngjalhekmlaaDoor
