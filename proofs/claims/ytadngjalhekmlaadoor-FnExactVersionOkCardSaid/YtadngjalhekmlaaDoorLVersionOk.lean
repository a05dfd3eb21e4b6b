/- VersionOk: the law's walk. -/
import Derived.Test.YtadngjalhekmlaaDoorVs
namespace Go.Proofs.YtadngjalhekmlaaDoor
open Go.RowKit Go.Shelf

set_option maxHeartbeats 1000000 in
set_option maxRecDepth 20000 in
theorem law_FnExactVersionOk (s : ByteArray) (_ws : s.data.toList.length ≤ maxLen) (w : World) (ht : VerW w) :
    Calls Tryd.prog 3 #[.string s] w fun e w' => e = .returned (.bool true) ∧ Below w.heap.size w w' := by
  have HT := Lib.hid ht
  clear ht
  by_cases h : (1048576 : Int) < (s.size : Int)
  · go_enter Tryd.func3, Tryd.ntmps3
    go_wp2
    go_ret
    exact ⟨rfl, Below.refl _ _⟩
  · go_enter Tryd.func3, Tryd.ntmps3
    go_wp2_with fail
    refine (versionOk_s s (by omega) _).mono ?_
    rintro e w1 ⟨rfl, hb1⟩
    go_wp2_with fail
    refine (versionOk_i s (by omega) _ (HT.out.below hb1)).mono ?_
    rintro e w2 ⟨rfl, hb2⟩
    have B2 := hb1.trans (hb2.mono hb1.size)
    clear hb1 hb2
    cases numIs s
    all_goals
      go_wp2
      go_ret
      exact ⟨rfl, B2⟩
end Go.Proofs.YtadngjalhekmlaaDoor
