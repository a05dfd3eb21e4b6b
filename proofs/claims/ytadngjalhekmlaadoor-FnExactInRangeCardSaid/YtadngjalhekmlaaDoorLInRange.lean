/- InRange: the law's walk. -/
import Derived.Test.YtadngjalhekmlaaDoorInRan
import Derived.Lib.SmallJoins
namespace Go.Proofs.YtadngjalhekmlaaDoor
open Go.RowKit Go.Shelf Go.ChangeShapes Go.WideShapes

set_option maxHeartbeats 1000000 in
set_option maxRecDepth 20000 in
theorem law_FnExactInRange {H : Type} {enc : TypeId × Value → H} {b0 : Nat} {w : World} (s : ByteArray) (_ws : s.data.toList.length ≤ maxLen) (v : Value) (d : DataW H) (p : List MemPlace) (hv : Value.okWide Tryd.prog w .any b0 25 v)
    (h : DataW.Trod enc Tryd.prog w 0 (fun _ => true) true 25 v d p) (ht : VerW w) :
    Calls Tryd.prog 5 #[.string s, v] w fun e w' => e = .returned (.bool true) ∧ Below w.heap.size w w' := by
  obtain ⟨c0, c1, y0, y1, m, rfl, rfl, rfl, hy0, hy1⟩ := Go.Joins.open_agg2 Tryd.underlying25 (by kernel_rfl) (by kernel_rfl : Tryd.prog.cellsOf 25 = 2) hv h
  obtain ⟨a, e0, rfl, wa⟩ := DataW.trod_int Tryd.underlying2 hy0
  obtain ⟨b, e1, rfl, wb⟩ := DataW.trod_int Tryd.underlying2 hy1
  simp at e0 e1
  subst e0 e1
  have ha := bounds_i64 wa
  have HT := Lib.hid ht
  clear hv h hy0 hy1 wa wb ht
  by_cases hl : (1048576 : Int) < (s.size : Int)
  · go_enter Tryd.func5, Tryd.ntmps5
    go_wp2
    go_ret
    exact ⟨rfl, (Below.refl _ _).alloc (Nat.le_refl _) _⟩
  · go_enter Tryd.func5, Tryd.ntmps5
    go_upto_region 1 with fail
    obtain ⟨w0, hw0⟩ : ∃ w0, w0 = w.alloc (.cells #[.int .i64 a, .int .i64 b] 25) := ⟨_, rfl⟩
    rw [← hw0]
    have bA : Box w0 w.heap.size 25 [.int .i64 a, .int .i64 b] := by rw [hw0]; exact Box.new w _ _
    have B0 : Below w.heap.size w w0 := by rw [hw0]; exact (Below.refl _ _).alloc (Nat.le_refl _) _
    have zA := bA.lt
    have h1 : w0.cell? ⟨w.heap.size, 0, none⟩ = some (.int .i64 a) := bA.cell 0
    have h2 : w0.cell? ⟨w.heap.size, 1, none⟩ = some (.int .i64 b) := bA.cell 1
    clear hw0
    go_wp2_with fail
    refine (toRange_w a b _).mono ?_
    rintro e w1 ⟨rfl, hb1⟩
    go_wp2_with fail
    refine (inRange_s s (by omega) a b ha _).mono ?_
    rintro e w2 ⟨rfl, hb2⟩
    have B2 : Below w0.heap.size w0 w2 := hb1.trans (hb2.mono hb1.size)
    have k1 : w2.cell? ⟨w.heap.size, 0, none⟩ = some (.int .i64 a) := (B2.cell (p := ⟨w.heap.size, 0, none⟩) zA).trans h1
    have k2 : w2.cell? ⟨w.heap.size, 1, none⟩ = some (.int .i64 b) := (B2.cell (p := ⟨w.heap.size, 1, none⟩) zA).trans h2
    clear hb1 hb2
    go_wp2_with fail
    refine (toRange_w a b _).mono ?_
    rintro e w3 ⟨rfl, hb3⟩
    have B3 := (B0.trans (B2.mono B0.size)).trans (hb3.mono (Nat.le_trans B0.size B2.size))
    go_wp2_with fail
    refine (inRange_i s (by omega) a b ha _ (HT.out.below B3)).mono ?_
    rintro e w4 ⟨rfl, hb4⟩
    have B4 := B3.trans (hb4.mono B3.size)
    clear hb3 hb4
    cases inRan s a b
    all_goals
      go_wp2
      go_ret
      exact ⟨rfl, B4⟩
end Go.Proofs.YtadngjalhekmlaaDoor
