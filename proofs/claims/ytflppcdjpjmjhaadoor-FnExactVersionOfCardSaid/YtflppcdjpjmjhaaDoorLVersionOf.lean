/- VersionOf: the law's walk. -/
import Derived.Test.YtflppcdjpjmjhaaDoorVer
namespace Go.Proofs.YtflppcdjpjmjhaaDoor
open Go.RowKit Go.Shelf

set_option maxHeartbeats 1000000 in
set_option maxRecDepth 20000 in
theorem law_FnExactVersionOf (n : Int) (_hn : (Lit.int .i64 n).wf = true) (w : World) (ht : Tab10 w) :
    Calls Tryd.prog 3 #[.int .i64 n] w fun e w' => e = .returned (.bool true) ∧ Below w.heap.size w w' := by
  have HT := Lib.hid ht
  clear ht
  go_enter Tryd.func3, Tryd.ntmps3
  go_wp2_with fail
  refine (versionOf_s n _).mono ?_
  rintro e w1 ⟨rfl, hb1⟩
  go_wp2_with fail
  refine (versionOf_i n _ (HT.out.below hb1)).mono ?_
  rintro e w2 ⟨rfl, hb2⟩
  have B2 := hb1.trans (hb2.mono hb1.size)
  clear hb2
  obtain ⟨R, hR⟩ : ∃ R, verOr n = R := ⟨_, rfl⟩
  rw [hR]
  clear hR
  have hne : (R.toList != R.toList) = false := by simp
  go_wp2
  go_ret
  exact ⟨rfl, B2⟩
end Go.Proofs.YtflppcdjpjmjhaaDoor
