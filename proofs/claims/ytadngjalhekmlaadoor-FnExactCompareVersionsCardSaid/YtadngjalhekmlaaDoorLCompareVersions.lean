/- CompareVersions: the law's walk. -/
import Derived.Test.YtadngjalhekmlaaDoorCmpV
namespace Go.Proofs.YtadngjalhekmlaaDoor
open Go.RowKit Go.Shelf

set_option maxHeartbeats 1000000 in
set_option maxRecDepth 20000 in
theorem law_FnExactCompareVersions (a : ByteArray) (_wa : a.data.toList.length ≤ maxLen) (b : ByteArray) (_wb : b.data.toList.length ≤ maxLen) (w : World) (ht : VerW w) :
    Calls Tryd.prog 6 #[.string a, .string b] w fun e w' => e = .returned (.bool true) ∧ Below w.heap.size w w' := by
  have HT := Lib.hid ht
  clear ht
  by_cases h : (1048576 : Int) < (a.size : Int)
  · go_enter Tryd.func6, Tryd.ntmps6
    go_wp2
    go_ret
    exact ⟨rfl, Below.refl _ _⟩
  · by_cases h2 : (1048576 : Int) < (b.size : Int)
    · go_enter Tryd.func6, Tryd.ntmps6
      go_wp2
      go_ret
      exact ⟨rfl, Below.refl _ _⟩
    · go_enter Tryd.func6, Tryd.ntmps6
      go_wp2_with fail
      refine (compare_s a b (by omega) (by omega) _).mono ?_
      rintro e w1 ⟨rfl, hb1⟩
      go_wp2_with fail
      refine (compare_i a b (by omega) (by omega) _ (HT.out.below hb1)).mono ?_
      rintro e w2 ⟨rfl, hb2⟩
      have B2 := hb1.trans (hb2.mono hb1.size)
      clear hb1 hb2
      obtain ⟨X, hX⟩ : ∃ X, cmpV a b = X := ⟨_, rfl⟩
      obtain ⟨x, y⟩ := X
      rw [hX]
      clear hX
      have g1 : (x == x) = true := by simp
      have g2 : (y == y) = true := by simp
      have g3 : (x != x) = false := by simp
      have g4 : (y != y) = false := by simp
      go_wp2
      go_ret
      exact ⟨rfl, B2⟩
end Go.Proofs.YtadngjalhekmlaaDoor
