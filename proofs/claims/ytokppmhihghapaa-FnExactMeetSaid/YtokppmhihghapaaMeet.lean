/- Meet: what the program's and the reference's function compute, and the law. -/
import Derived.Test.YtokppmhihghapaaRanges
import Derived.Test.YtokppmhihghapaaTree
import Derived.Deep.DeepCutAuto
import Derived.Deep.RegionHeld3
namespace Go.Proofs.Ytokppmhihghapaa
open Go.RowKit Go.ChangeShapes Go.WideShapes

theorem l00Max_s (a b : Int) (w : World) : Calls Try.prog 66 #[.int .i64 a, .int .i64 b] w fun e w' => e = .returned (.int .i64 (max a b)) ∧ w = w' := by
  by_cases h : b < a
  · have hm : max a b = a := by omega
    rw [hm]
    go_enter Try.func66, Try.ntmps66; go_wp2; go_ret; exact ⟨rfl, rfl⟩
  · have hm : max a b = b := by omega
    rw [hm]
    go_enter Try.func66, Try.ntmps66; go_wp2; go_ret; exact ⟨rfl, rfl⟩
theorem l00Min_s (a b : Int) (w : World) : Calls Try.prog 67 #[.int .i64 a, .int .i64 b] w fun e w' => e = .returned (.int .i64 (min a b)) ∧ w = w' := by
  by_cases h : a < b
  · have hm : min a b = a := by omega
    rw [hm]
    go_enter Try.func67, Try.ntmps67; go_wp2; go_ret; exact ⟨rfl, rfl⟩
  · have hm : min a b = b := by omega
    rw [hm]
    go_enter Try.func67, Try.ntmps67; go_wp2; go_ret; exact ⟨rfl, rfl⟩
/-- What Meet returns: the two ends and whether there is a meeting. -/
def meetOk (a b c d : Int) : Bool := rangeOk a b && (rangeOk c d && decide (max a c < min b d))
def meetLo (a b c d : Int) : Int := if meetOk a b c d = true then max a c else 0
def meetHi (a b c d : Int) : Int := if meetOk a b c d = true then min b d else 0
def RetMeet (a b c d : Int) (w : World) (e : Ending) (w' : World) : Prop :=
  e = .returned (.tuple #[.agg #[.int .i64 (meetLo a b c d), .int .i64 (meetHi a b c d)], .bool (meetOk a b c d)]) ∧ Below w.heap.size w w'
theorem ret_meet {a b c d x y : Int} {o : Bool} {w w' : World} (h1 : meetLo a b c d = x) (h2 : meetHi a b c d = y) (h3 : meetOk a b c d = o) (h : Below w.heap.size w w') :
    RetMeet a b c d w (.returned (.tuple #[.agg #[.int .i64 x, .int .i64 y], .bool o])) w' := by
  subst h1 h2 h3
  exact ⟨rfl, h⟩

set_option maxHeartbeats 1000000 in
set_option maxRecDepth 20000 in
theorem meet_s (a b c d : Int) (w : World) (ha1 : -9223372036854775808 ≤ a) (ha2 : a ≤ 9223372036854775807) (hc1 : -9223372036854775808 ≤ c) (hc2 : c ≤ 9223372036854775807) :
    Calls Try.prog 22 #[.agg #[.int .i64 a, .int .i64 b], .agg #[.int .i64 c, .int .i64 d]] w (RetMeet a b c d w) := by
  go_enter Try.func22, Try.ntmps22
  go_wp2_with fail
  refine (rangeOk_s _ _ _ ha1 ha2).mono ?_
  rintro e w1 ⟨rfl, hb1⟩
  obtain ⟨B1, bA, bB, bC⟩ := box3 (cA := [_, _]) (cB := [_, _]) (cC := [_, _]) hb1
  clear hb1
  have k1 := bA.cell
  have k2 := bB.cell
  have k3 := bC.cell
  have k4 := bC.frozen
  cases h1 : rangeOk a b
  · have hm : meetOk a b c d = false := by simp [meetOk, h1]
    have HM := Lib.hid hm
    clear hm h1
    go_wp2
    refine bodyPost_ret (v := .tuple #[.agg #[.int .i64 0, .int .i64 0], .bool false]) (by simp [results, Try.results22, go_sem, k3]) rfl (ret_meet (by simp [meetLo, HM.out]) (by simp [meetHi, HM.out]) HM.out ?_)
    repeat (refine Below.setCell ?_ (by simp <;> omega) _)
    exact B1
  · go_wp2_with fail
    refine (rangeOk_s _ _ _ hc1 hc2).mono ?_
    rintro e w2 ⟨rfl, hb2⟩
    have B2 := B1.trans (hb2.mono B1.size)
    replace bA := bA.call hb2
    replace bB := bB.call hb2
    replace bC := bC.call hb2
    clear k1 k2 k3 k4 B1 hb2
    have k1 := bA.cell
    have k2 := bB.cell
    have k3 := bC.cell
    have k4 := bC.frozen
    have zA := bA.lt
    have zB := bB.lt
    have zC := bC.lt
    cases h2 : rangeOk c d
    · have hm : meetOk a b c d = false := by simp [meetOk, h2]
      have HM := Lib.hid hm
      clear hm h1 h2
      go_wp2
      refine bodyPost_ret (v := .tuple #[.agg #[.int .i64 0, .int .i64 0], .bool false]) (by simp [results, Try.results22, go_sem, k3]) rfl (ret_meet (by simp [meetLo, HM.out]) (by simp [meetHi, HM.out]) HM.out ?_)
      repeat (refine Below.setCell ?_ (by simp <;> omega) _)
      exact B2
    · have HR := Lib.hid (And.intro h1 h2)
      clear h1 h2
      go_upto_region 3 with fail
      go_cut [6] (fun s wx => s = .pointer (some ⟨w2.heap.size, 0, none⟩) ∧ Below w.heap.size w wx ∧ Box wx (w.heap.size + 2) 34 [.int .i64 0, .int .i64 0] ∧ Box wx w2.heap.size 34 [.int .i64 (max a c), .int .i64 (min b d)])
      case first =>
        have e1 : w2.cell? ⟨w.heap.size, 0, none⟩ = some (.int .i64 a) := k1 0
        have e2 : w2.cell? ⟨w.heap.size, 1, none⟩ = some (.int .i64 b) := k1 1
        have e3 : w2.cell? ⟨w.heap.size + 1, 0, none⟩ = some (.int .i64 c) := k2 0
        have e4 : w2.cell? ⟨w.heap.size + 1, 1, none⟩ = some (.int .i64 d) := k2 1
        clear k1 k2 k3 k4
        go_region_held3 (fun w' => w'.cell? ⟨w.heap.size, 0, none⟩ = some (.int .i64 a) ∧ w'.cell? ⟨w.heap.size, 1, none⟩ = some (.int .i64 b) ∧ w'.cell? ⟨w.heap.size + 1, 0, none⟩ = some (.int .i64 c) ∧ w'.cell? ⟨w.heap.size + 1, 1, none⟩ = some (.int .i64 d))
          (go_keep)
          (first
            | (go_at_call 66; ((with_reducible refine (l00Max_s a c _).mono ?_); rintro e w3 ⟨rfl, rfl⟩))
            | (go_at_call 67; ((with_reducible refine (l00Min_s b d _).mono ?_); rintro e w3 ⟨rfl, rfl⟩)))
        all_goals
          go_wp2_with fail
          go_meet
          exact ⟨rfl, (B2.drew.alloc (by have := B2.size; simpa using this) _), (Box.drew bC).alloc _, Box.new _ _ _⟩
      case rest =>
        obtain ⟨rfl, B3, bC, bD⟩ := hcut
        clear k1 k2 k3 k4 zA zB bA bB
        have k1 := bD.cell
        have k3 := bC.cell
        have k4 := bC.frozen
        have zD := bD.lt
        by_cases hlt : max a c < min b d
        · have hm : meetOk a b c d = true := by simp only [meetOk, HR.out.1, HR.out.2, hlt, decide_true, Bool.and_self]
          have HM := Lib.hid hm
          have hge : ¬ min b d ≤ max a c := by omega
          clear hm
          generalize hp : max a c = p at *
          generalize hq : min b d = q at *
          have HP := Lib.hid (And.intro hp hq)
          clear hp hq
          go_wp2
          refine bodyPost_ret (v := .tuple #[.agg #[.int .i64 p, .int .i64 q], .bool true]) (by simp [results, Try.results22, go_sem, k3]) rfl (ret_meet (by rw [meetLo, if_pos HM.out]; exact HP.out.1) (by rw [meetHi, if_pos HM.out]; exact HP.out.2) HM.out ?_)
          repeat (refine Below.setCell ?_ (by simp <;> omega) _)
          exact B3
        · have hm : meetOk a b c d = false := by simp only [meetOk, hlt, decide_false, Bool.and_false]
          have HM := Lib.hid hm
          have hge : min b d ≤ max a c := by omega
          clear hm hlt
          generalize max a c = p at *
          generalize min b d = q at *
          go_wp2
          refine bodyPost_ret (v := .tuple #[.agg #[.int .i64 0, .int .i64 0], .bool false]) (by simp [results, Try.results22, go_sem, k3]) rfl (ret_meet (by rw [meetLo, if_neg (by rw [HM.out]; decide)]) (by rw [meetHi, if_neg (by rw [HM.out]; decide)]) HM.out ?_)
          repeat (refine Below.setCell ?_ (by simp <;> omega) _)
          exact B3

theorem box4 {w : World} {tA tB tC tD : TypeId} {cA cB cC cD : List Value} {w1 : World}
    (hb : Below ((((w.alloc (.cells cA.toArray tA)).alloc (.cells cB.toArray tB)).alloc (.cells cC.toArray tC)).alloc (.cells cD.toArray tD)).heap.size ((((w.alloc (.cells cA.toArray tA)).alloc (.cells cB.toArray tB)).alloc (.cells cC.toArray tC)).alloc (.cells cD.toArray tD)) w1) :
    Below w.heap.size w w1 ∧ Box w1 w.heap.size tA cA ∧ Box w1 (w.heap.size + 1) tB cB ∧ Box w1 (w.heap.size + 2) tC cC ∧ Box w1 (w.heap.size + 3) tD cD := by
  refine ⟨(((((Below.refl _ _).alloc (Nat.le_refl _) _).alloc (by simp) _).alloc (by simp; omega) _).alloc (by simp; omega) _).trans (hb.mono (by simp; omega)), ((((Box.new w tA cA).alloc _).alloc _).alloc _).call hb, ?_, ?_, ?_⟩
  · have := (((Box.new (w.alloc (.cells cA.toArray tA)) tB cB).alloc (.cells cC.toArray tC)).alloc (.cells cD.toArray tD)).call hb
    simpa using this
  · have := ((Box.new ((w.alloc (.cells cA.toArray tA)).alloc (.cells cB.toArray tB)) tC cC).alloc (.cells cD.toArray tD)).call hb
    simpa using this
  · have := (Box.new (((w.alloc (.cells cA.toArray tA)).alloc (.cells cB.toArray tB)).alloc (.cells cC.toArray tC)) tD cD).call hb
    simpa using this

set_option maxHeartbeats 1000000 in
set_option maxRecDepth 20000 in
theorem meet_i (a b c d : Int) (w : World) (ha1 : -9223372036854775808 ≤ a) (ha2 : a ≤ 9223372036854775807) (hc1 : -9223372036854775808 ≤ c) (hc2 : c ≤ 9223372036854775807) :
    Calls Try.prog 24 #[.agg #[.int .i64 a, .int .i64 b], .agg #[.int .i64 c, .int .i64 d]] w (RetMeet a b c d w) := by
  go_enter Try.func24, Try.ntmps24
  go_wp2_with fail
  refine (rangeOk_i _ _ _ ha1 ha2).mono ?_
  rintro e w1 ⟨rfl, hb1⟩
  obtain ⟨B1, bA, bB, bC, bD⟩ := box4 (cA := [_, _]) (cB := [_, _]) (cC := [_, _]) (cD := [_, _]) hb1
  clear hb1
  have k1 := bA.cell
  have k2 := bB.cell
  have k3 := bC.cell
  have k4 := bC.frozen
  have k5 := bD.cell
  have zD := bD.lt
  cases h1 : rangeOk a b
  · have hm : meetOk a b c d = false := by simp [meetOk, h1]
    have HM := Lib.hid hm
    clear hm h1
    go_wp2
    refine bodyPost_ret (v := .tuple #[.agg #[.int .i64 0, .int .i64 0], .bool false]) (by simp [results, Try.results24, go_sem, k3]) rfl (ret_meet (by simp [meetLo, HM.out]) (by simp [meetHi, HM.out]) HM.out ?_)
    repeat (refine Below.setCell ?_ (by simp <;> omega) _)
    exact B1
  · go_wp2_with fail
    refine (rangeOk_i _ _ _ hc1 hc2).mono ?_
    rintro e w2 ⟨rfl, hb2⟩
    have B2 := B1.trans (hb2.mono B1.size)
    replace bC := bC.call hb2
    replace bD := bD.call hb2
    clear k1 k2 k3 k4 k5 bA bB B1 hb2 zD
    have k3 := bC.cell
    have k4 := bC.frozen
    have k5 := bD.cell
    have zD := bD.lt
    cases h2 : rangeOk c d
    · have hm : meetOk a b c d = false := by simp [meetOk, h2]
      have HM := Lib.hid hm
      clear hm h1 h2
      go_wp2
      refine bodyPost_ret (v := .tuple #[.agg #[.int .i64 0, .int .i64 0], .bool false]) (by simp [results, Try.results24, go_sem, k3]) rfl (ret_meet (by simp [meetLo, HM.out]) (by simp [meetHi, HM.out]) HM.out ?_)
      repeat (refine Below.setCell ?_ (by simp <;> omega) _)
      exact B2
    · have HR := Lib.hid (And.intro h1 h2)
      clear h1 h2
      by_cases hlt : max a c < min b d
      · have hm : meetOk a b c d = true := by simp only [meetOk, HR.out.1, HR.out.2, hlt, decide_true, Bool.and_self]
        have HM := Lib.hid hm
        have hge : ¬ min b d ≤ max a c := by omega
        clear hm
        generalize hp : max a c = p at *
        generalize hq : min b d = q at *
        have HP := Lib.hid (And.intro hp hq)
        clear hp hq
        go_wp2
        refine bodyPost_ret (v := .tuple #[.agg #[.int .i64 p, .int .i64 q], .bool true]) (by simp [results, Try.results24, go_sem, k3]) rfl (ret_meet (by rw [meetLo, if_pos HM.out]; exact HP.out.1) (by rw [meetHi, if_pos HM.out]; exact HP.out.2) HM.out ?_)
        repeat (refine Below.setCell ?_ (by simp <;> omega) _)
        exact B2
      · have hm : meetOk a b c d = false := by simp only [meetOk, hlt, decide_false, Bool.and_false]
        have HM := Lib.hid hm
        have hge : min b d ≤ max a c := by omega
        clear hm hlt
        generalize max a c = p at *
        generalize min b d = q at *
        go_wp2
        refine bodyPost_ret (v := .tuple #[.agg #[.int .i64 0, .int .i64 0], .bool false]) (by simp [results, Try.results24, go_sem, k3]) rfl (ret_meet (by rw [meetLo, if_neg (by rw [HM.out]; decide)]) (by rw [meetHi, if_neg (by rw [HM.out]; decide)]) HM.out ?_)
        repeat (refine Below.setCell ?_ (by simp <;> omega) _)
        exact B2
theorem eqRange_w (a b : Int) (w : World) : Calls Try.prog 25 #[.agg #[.int .i64 a, .int .i64 b], .agg #[.int .i64 a, .int .i64 b]] w fun e w' => e = .returned (.bool true) ∧ Below w.heap.size w w' := by
  go_enter Try.func25, Try.ntmps25
  go_wp2
  go_ret
  exact ⟨rfl, by repeat (first | exact Below.refl _ _ | refine Below.alloc ?_ (by first | omega | (simp <;> omega)) _)⟩
end Go.Proofs.Ytokppmhihghapaa
