/- Reason: how much the law counts, its deep copy, its comparison. -/
import Derived.Test.YtokppmhihghapaaGStrs
import Derived.Test.YtokppmhihghapaaTyM2
namespace Go.Proofs.Ytokppmhihghapaa
open Go.RowKit

def SzReason (x : Rs) : Prop := ∀ (cs : List Value) (a : Int) (w : World), D.Ats w anyB x.ds cs → 0 ≤ a → a ≤ 1048576 →
  Calls Try.prog 16 #[.agg cs.toArray, .int .i64 a] w fun e w' => e = .returned (.int .i64 (left a (D.totals x.ds))) ∧ Below w.heap.size w w'

set_option maxHeartbeats 1000000 in
theorem szReason_w (x : Rs) : SzReason x := by
  intro cs a w hcs h0 h1
  obtain ⟨rfl, iA0, zA1⟩ := Rs.open_ hcs
  have hT : D.totals x.ds = x.at_.size := by simp [Rs.ds, D.totals, D.total]
  have HT := Lib.hid hT
  unfold maxLen at zA1
  clear hT
  by_cases g1 : (x.at_.size : Int) ≤ a
  · skip
    go_enter Try.func16, Try.ntmps16
    go_wp2
    go_ret
    have e9 : left a (D.totals x.ds) = a - (x.at_.size : Int) := by rw [left_yes (by rw [HT.out]; omega), HT.out]; first | done | omega
    exact ⟨ret_eq (by rw [e9]; try rfl), (by repeat (first | exact Below.refl _ _ | refine Below.alloc ?_ (by first | omega | (simp <;> omega)) _))⟩
  · skip
    go_enter Try.func16, Try.ntmps16
    go_wp2
    go_ret
    exact ⟨ret_eq (by rw [left_no (by rw [HT.out]; omega)]; try rfl), (by repeat (first | exact Below.refl _ _ | refine Below.alloc ?_ (by first | omega | (simp <;> omega)) _))⟩

def ToReason (x : Rs) : Prop := ∀ (cs : List Value) (w : World), D.Ats w anyB x.ds cs → D.totals x.ds ≤ 1048576 → Calls Try.prog 18 #[.agg cs.toArray] w (RetDs x.ds w)

set_option maxHeartbeats 1000000 in
theorem toReason_w (x : Rs) : ToReason x := by
  intro cs w hcs htot
  obtain ⟨rfl, iA0, zA1⟩ := Rs.open_ hcs
  have hT : D.totals x.ds = x.at_.size := by simp [Rs.ds, D.totals, D.total]
  rw [hT] at htot
  have KiA0 := Lib.hid iA0
  have KzA1 := Lib.hid zA1
  clear hT iA0 zA1
  go_enter Try.func18, Try.ntmps18
  go_wp2
  refine bodyPost_ret (v := .agg #[.int .i64 x.kind, .string x.at_]) (by simp [results, Try.results18, go_sem]) rfl ⟨[.int .i64 x.kind, .string x.at_], rfl, ?_, ?_⟩
  · exact Rs.mk_ KiA0.out KzA1.out
  · repeat (first | exact Below.refl _ _ | refine Below.alloc ?_ (by first | omega | (simp <;> omega)) _)

end Go.Proofs.Ytokppmhihghapaa
