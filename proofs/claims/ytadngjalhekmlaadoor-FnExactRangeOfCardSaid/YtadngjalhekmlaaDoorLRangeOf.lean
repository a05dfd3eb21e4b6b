/- RangeOf: the law's walk. -/
import Derived.Test.YtadngjalhekmlaaDoorRanOfW
import Derived.Test.YtadngjalhekmlaaDoorEqRan
namespace Go.Proofs.YtadngjalhekmlaaDoor
open Go.RowKit Go.Shelf

set_option maxHeartbeats 1000000 in
set_option maxRecDepth 20000 in
theorem law_FnExactRangeOf (s : ByteArray) (_ws : s.data.toList.length ≤ maxLen) (w : World) (ht : VerW w) :
    Calls Tryd.prog 7 #[.string s] w fun e w' => e = .returned (.bool true) ∧ Below w.heap.size w w' := by
  have HT := Lib.hid ht
  clear ht
  by_cases h : (1048576 : Int) < (s.size : Int)
  · go_enter Tryd.func7, Tryd.ntmps7
    go_wp2
    go_ret
    exact ⟨rfl, Below.refl _ _⟩
  · obtain ⟨X, hX⟩ : ∃ X, ranX s = X := ⟨_, rfl⟩
    obtain ⟨a, b, c⟩ := X
    have HS := Lib.hid (fun w => rangeOf_s s (by omega) w)
    have HI := Lib.hid (fun w => rangeOf_i s (by omega) w)
    rw [hX, retRan_mk] at HS HI
    clear hX
    have g : (c != c) = false := by simp
    go_enter Tryd.func7, Tryd.ntmps7
    go_wp2_with fail
    refine (HS.out _).mono ?_
    rintro e w1 ⟨rfl, hb1⟩
    go_upto_region 4 with fail
    obtain ⟨w1', hw1⟩ : ∃ w1', w1' = w1.alloc (.cells #[.int .i64 a, .int .i64 b] 27) := ⟨_, rfl⟩
    rw [← hw1]
    have bA : Box w1' w1.heap.size 27 [.int .i64 a, .int .i64 b] := by rw [hw1]; exact Box.new w1 _ _
    have B1 : Below w.heap.size w w1' := by rw [hw1]; exact hb1.alloc hb1.size _
    obtain ⟨g1, hg1⟩ : ∃ g1, w1.heap.size = g1 := ⟨_, rfl⟩
    rw [hg1] at bA ⊢
    clear hw1 hb1 hg1
    go_wp2_with fail
    refine (HI.out _ (HT.out.below B1)).mono ?_
    rintro e w2 ⟨rfl, hb2⟩
    have B2 := B1.trans (hb2.mono B1.size)
    have bA2 := bA.call hb2
    clear bA hb2
    go_upto_region 5 with fail
    obtain ⟨w2', hw2⟩ : ∃ w2', w2' = w2.alloc (.cells #[.int .i64 a, .int .i64 b] 27) := ⟨_, rfl⟩
    rw [← hw2]
    have bB : Box w2' w2.heap.size 27 [.int .i64 a, .int .i64 b] := by rw [hw2]; exact Box.new w2 _ _
    have bA3 : Box w2' g1 27 [.int .i64 a, .int .i64 b] := by rw [hw2]; exact bA2.alloc _
    have B3 : Below w.heap.size w w2' := by rw [hw2]; exact B2.alloc B2.size _
    obtain ⟨g2, hg2⟩ : ∃ g2, w2.heap.size = g2 := ⟨_, rfl⟩
    rw [hg2] at bB ⊢
    have c1 := bA3.cell
    have c2 := bB.cell
    clear hw2 hg2 bA2 B1 B2
    go_wp2_with fail
    refine (eqRange_w a b _).mono ?_
    rintro e w4 ⟨rfl, hb4⟩
    have B4 := B3.trans (hb4.mono B3.size)
    clear hb4
    go_wp2
    go_ret
    exact ⟨rfl, B4⟩
end Go.Proofs.YtadngjalhekmlaaDoor
