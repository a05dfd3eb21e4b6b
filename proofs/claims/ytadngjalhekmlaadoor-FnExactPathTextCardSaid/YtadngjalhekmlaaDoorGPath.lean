/- Path: how much the law counts, its deep copy, its comparison. -/
import Derived.Test.YtadngjalhekmlaaDoorGStrs
import Derived.Test.YtadngjalhekmlaaDoorTyM2
namespace Go.Proofs.YtadngjalhekmlaaDoor
open Go.RowKit

def SzPath (x : Pt) : Prop := ∀ (cs : List Value) (a : Int) (w : World), D.Ats w anyB x.ds cs → 0 ≤ a → a ≤ 1048576 →
  Calls Tryd.prog 27 #[.agg cs.toArray, .int .i64 a] w fun e w' => e = .returned (.int .i64 (left a (D.totals x.ds))) ∧ Below w.heap.size w w'

set_option maxHeartbeats 1000000 in
theorem szPath_w (x : Pt) : SzPath x := by
  intro cs a w hcs h0 h1
  obtain ⟨rfl, zA0, zA1, zA2⟩ := Pt.open_ hcs
  have hT : D.totals x.ds = x.pkg.size + x.name.size + x.ver.size := by simp [Pt.ds, D.totals, D.total] <;> omega
  have HT := Lib.hid hT
  unfold maxLen at zA0 zA1 zA2
  clear hT
  by_cases g0 : (x.pkg.size : Int) ≤ a
  · skip
    by_cases g1 : (x.name.size : Int) ≤ a - (x.pkg.size : Int)
    · skip
      by_cases g2 : (x.ver.size : Int) ≤ a - (x.pkg.size : Int) - (x.name.size : Int)
      · skip
        go_enter Tryd.func27, Tryd.ntmps27
        go_wp2
        go_ret
        have e9 : left a (D.totals x.ds) = a - (x.pkg.size : Int) - (x.name.size : Int) - (x.ver.size : Int) := by rw [left_yes (by rw [HT.out]; omega), HT.out]; first | done | omega
        exact ⟨ret_eq (by rw [e9]; try rfl), (by repeat (first | exact Below.refl _ _ | refine Below.alloc ?_ (by first | omega | (simp <;> omega)) _))⟩
      · skip
        go_enter Tryd.func27, Tryd.ntmps27
        go_wp2
        go_ret
        exact ⟨ret_eq (by rw [left_no (by rw [HT.out]; omega)]; try rfl), (by repeat (first | exact Below.refl _ _ | refine Below.alloc ?_ (by first | omega | (simp <;> omega)) _))⟩
    · skip
      go_enter Tryd.func27, Tryd.ntmps27
      go_wp2
      go_ret
      exact ⟨ret_eq (by rw [left_no (by rw [HT.out]; omega)]; try rfl), (by repeat (first | exact Below.refl _ _ | refine Below.alloc ?_ (by first | omega | (simp <;> omega)) _))⟩
  · skip
    go_enter Tryd.func27, Tryd.ntmps27
    go_wp2
    go_ret
    exact ⟨ret_eq (by rw [left_no (by rw [HT.out]; omega)]; try rfl), (by repeat (first | exact Below.refl _ _ | refine Below.alloc ?_ (by first | omega | (simp <;> omega)) _))⟩

def ToPath (x : Pt) : Prop := ∀ (cs : List Value) (w : World), D.Ats w anyB x.ds cs → D.totals x.ds ≤ 1048576 → Calls Tryd.prog 29 #[.agg cs.toArray] w (RetDs x.ds w)

set_option maxHeartbeats 1000000 in
theorem toPath_w (x : Pt) : ToPath x := by
  intro cs w hcs htot
  obtain ⟨rfl, zA0, zA1, zA2⟩ := Pt.open_ hcs
  have hT : D.totals x.ds = x.pkg.size + x.name.size + x.ver.size := by simp [Pt.ds, D.totals, D.total] <;> omega
  rw [hT] at htot
  have KzA0 := Lib.hid zA0
  have KzA1 := Lib.hid zA1
  have KzA2 := Lib.hid zA2
  clear hT zA0 zA1 zA2
  go_enter Tryd.func29, Tryd.ntmps29
  go_wp2
  refine bodyPost_ret (v := .agg #[.string x.pkg, .string x.name, .string x.ver]) (by simp [results, Tryd.results29, go_sem]) rfl ⟨[.string x.pkg, .string x.name, .string x.ver], rfl, ?_, ?_⟩
  · exact Pt.mk_ KzA0.out KzA1.out KzA2.out
  · repeat (first | exact Below.refl _ _ | refine Below.alloc ?_ (by first | omega | (simp <;> omega)) _)

end Go.Proofs.YtadngjalhekmlaaDoor
