/- FuncType: how much the law counts, its deep copy, its comparison. -/
import Derived.Test.YtoioljkhinodaaaGreatDoorGStrs
import Derived.Test.YtoioljkhinodaaaGreatDoorTyM
import Derived.Test.YtoioljkhinodaaaGreatDoorGParam
namespace Go.Proofs.YtoioljkhinodaaaGreatDoor
open Go.RowKit

def SzFuncType (x : Fn) : Prop := ∀ (cs : List Value) (a : Int) (w : World), D.Ats w anyB x.ds cs → 0 ≤ a → a ≤ 1048576 →
  Calls Tryz.prog 15 #[.agg cs.toArray, .int .i64 a] w fun e w' => e = .returned (.int .i64 (left a (D.totals x.ds))) ∧ Below w.heap.size w w'

set_option maxHeartbeats 1000000 in
theorem szFuncType_w (x : Fn) : SzFuncType x := by
  intro cs a w hcs h0 h1
  obtain ⟨AB, Ad, A0, A1, A2A, A2m, A2c, A3A, A3m, A3c, rfl, sA0, sA1⟩ := Fn.open_ hcs
  have hT : D.totals x.ds = (rows Pa.ds 5 x.params).total + D.totals x.res.ds := by simp [Fn.ds, D.totals, D.total, D.totals_append] <;> omega
  have HT := Lib.hid hT
  have H0 := Lib.hid sA0
  have H1 := Lib.hid sA1
  clear hT sA0 sA1
  go_enter Tryz.func15, Tryz.ntmps15
  go_wp2_with fail
  refine (szParamS_w x.params (fun x _ => szParam_w x) _ _ _ (H0.out.below (by repeat (first | exact Below.refl _ _ | refine Below.alloc ?_ (by first | omega | (simp <;> omega)) _))) (by omega) (by omega)).mono ?_
  rintro e w1 ⟨rfl, hb1⟩
  obtain ⟨B1, bA⟩ := box1 (cA := [_, _, _, _, _, _]) hb1
  clear hb1
  have c := bA.cell
  by_cases g0 : ((rows Pa.ds 5 x.params).total : Int) ≤ a
  · rw [left_yes g0]
    have e0 : ¬ (a - ((rows Pa.ds 5 x.params).total : Int) < 0) := by omega
    go_wp2_with fail
    refine (szType_w x.res _ _ _ (H1.out.below B1) (by omega) (by omega)).mono ?_
    rintro e w2 ⟨rfl, hb2⟩
    have B2 := B1.trans (hb2.mono B1.size)
    replace bA := bA.call hb2
    clear c
    clear hb2 B1
    have c := bA.cell
    by_cases g1 : (D.totals x.res.ds : Int) ≤ a - ((rows Pa.ds 5 x.params).total : Int)
    · rw [left_yes g1]
      have e1 : ¬ (a - ((rows Pa.ds 5 x.params).total : Int) - (D.totals x.res.ds : Int) < 0) := by omega
      go_wp2
      go_ret
      have e9 : left a (D.totals x.ds) = a - ((rows Pa.ds 5 x.params).total : Int) - (D.totals x.res.ds : Int) := by rw [left_yes (by rw [HT.out]; omega), HT.out]; first | done | omega
      exact ⟨ret_eq (by rw [e9]; try rfl), B2⟩
    · rw [left_no g1]
      go_wp2
      go_ret
      exact ⟨ret_eq (by rw [left_no (by rw [HT.out]; omega)]; try rfl), B2⟩
  · rw [left_no g0]
    go_wp2
    go_ret
    exact ⟨ret_eq (by rw [left_no (by rw [HT.out]; omega)]; try rfl), B1⟩

def ToFuncType (x : Fn) : Prop := ∀ (cs : List Value) (w : World), D.Ats w anyB x.ds cs → D.totals x.ds ≤ 1048576 → Calls Tryz.prog 17 #[.agg cs.toArray] w (RetDs x.ds w)

set_option maxHeartbeats 1000000 in
theorem toFuncType_w (x : Fn) : ToFuncType x := by
  intro cs w hcs htot
  obtain ⟨AB, Ad, A0, A1, A2A, A2m, A2c, A3A, A3m, A3c, rfl, sA0, sA1⟩ := Fn.open_ hcs
  have hT : D.totals x.ds = (rows Pa.ds 5 x.params).total + D.totals x.res.ds := by simp [Fn.ds, D.totals, D.total, D.totals_append] <;> omega
  rw [hT] at htot
  have H0 := Lib.hid sA0
  have H1 := Lib.hid sA1
  clear hT sA0 sA1
  go_enter Tryz.func17, Tryz.ntmps17
  go_wp2_with fail
  refine (toParamS_w x.params (fun x _ => toParam_w x) _ _ (H0.out.below (by repeat (first | exact Below.refl _ _ | refine Below.alloc ?_ (by first | omega | (simp <;> omega)) _))) (by omega)).mono ?_
  rintro e w1 ⟨r1, rfl, q1, hb1⟩
  obtain ⟨R1A, R1c, rfl, -, -⟩ := rows_form Pa.len q1
  obtain ⟨B1, bA, bB, bC⟩ := box3 (cA := [_, _, _, _, _, _]) (cB := [_, _, _, _, _, _]) (cC := [_, _, _, _, _, _]) hb1
  replace q1 := q1.weaken (S' := fun b => w.heap.size + 2 < b) (fun b hb => by simp at hb; omega)
  clear hb1
  have c := bA.cell
  have f := bC.cell
  have fz := bC.frozen
  have zz := bC.lt
  have Q1 := Lib.hid q1
  clear q1
  have q_ := True.intro
  clear q_
  have q1 := Q1.out
  clear Q1
  go_wp2_with fail
  refine (toType_w x.res _ _ (H1.out.below (by repeat (first | exact B1 | refine Below.setCell ?_ (by simp <;> omega) _))) (by omega)).mono ?_
  rintro e w2 ⟨r2, rfl, q2, hb2⟩
  obtain ⟨R20, R21, R22A, R22m, R22c, R23A, R23m, R23c, rfl⟩ := Ty.form q2
  have hsz := hb2.size
  simp at hsz
  have B2 : Below w.heap.size w w2 := Below.trans (by repeat (first | exact B1 | refine Below.setCell ?_ (by simp <;> omega) _)) (hb2.mono (by have := B1.size; simp; omega))
  have lC := bC.lt
  replace bA := (Box.set_ne (bA) (by simp <;> omega) (.slice R1A x.params.length R1c)).call hb2
  replace bB := (Box.set_ne (bB) (by simp <;> omega) (.slice R1A x.params.length R1c)).call hb2
  replace bC := ((bC.set 0 (.slice R1A x.params.length R1c))).call hb2
  simp only [List.set] at bC
  replace q1 := (D.At.set (q1) (by simp <;> omega) (.slice R1A x.params.length R1c)).below hb2
  replace q2 := q2.weaken (S' := fun b => w.heap.size + 2 < b) (fun b hb => by simp at hb; omega)
  clear hsz lC
  clear hb2 c f fz zz
  clear B1
  have c := bA.cell
  have f := bC.cell
  have fz := bC.frozen
  have zz := bC.lt
  have Q1 := Lib.hid q1
  clear q1
  have Q2 := Lib.hid q2
  clear q2
  have b := bB.cell
  have bz := bB.frozen
  go_wp2
  refine bodyPost_ret (v := .agg #[.slice R1A x.params.length R1c, .int .i64 R20, .string R21, .slice R22A R22m R22c, .slice R23A R23m R23c, .bool x.async]) (by simp [results, Tryz.results17, go_sem, b]) rfl ⟨[.slice R1A x.params.length R1c, .int .i64 R20, .string R21, .slice R22A R22m R22c, .slice R23A R23m R23c, .bool x.async], rfl, ?_, ?_⟩
  · refine D.Ats.weaken (S := fun b => w.heap.size + 2 < b) ?_ (fun b hb => by omega)
    repeat (refine D.Ats.set ?_ (by simp <;> omega) _)
    have p1 := Q1.out
    have p2 := Q2.out
    exact Fn.mk_ p1 p2
  · repeat (refine Below.setCell ?_ (by simp <;> omega) _)
    exact B2

set_option maxHeartbeats 1000000 in
theorem eqFuncType_w (x : Fn) : IsQ 19 Fn.ds Fn.same x := by
  intro y cs cs' w hcs hcs'
  obtain ⟨AB, Ad, A0, A1, A2A, A2m, A2c, A3A, A3m, A3c, rfl, sA0, sA1⟩ := Fn.open_ hcs
  obtain ⟨BB, Bd, B0, B1, B2A, B2m, B2c, B3A, B3m, B3c, rfl, sB0, sB1⟩ := Fn.open_ hcs'
  have hE : Fn.same x y = (pairs Pa.same x.params y.params && (Ty.same x.res y.res && ((x.async == y.async)))) := Fn.same_eq _ _
  have HE := Lib.hid hE
  have H0 := Lib.hid (And.intro sA0 sB0)
  have H1 := Lib.hid (And.intro sA1 sB1)
  clear hE sA0 sB0 sA1 sB1
  show Calls Tryz.prog 19 _ _ (fun e w' => e = .returned (.bool (Fn.same x y)) ∧ Below w.heap.size w w')
  go_enter Tryz.func19, Tryz.ntmps19
  go_wp2_with fail
  refine (eqParamS_w x.params y.params (fun x _ => eqParam_w x) _ _ _ (H0.out.1.below (by repeat (first | exact Below.refl _ _ | refine Below.alloc ?_ (by first | omega | (simp <;> omega)) _))) (H0.out.2.below (by repeat (first | exact Below.refl _ _ | refine Below.alloc ?_ (by first | omega | (simp <;> omega)) _)))).mono ?_
  rintro e w1 ⟨rfl, hb1⟩
  obtain ⟨B1, bA, bB⟩ := box2 (cA := [_, _, _, _, _, _]) (cB := [_, _, _, _, _, _]) hb1
  clear hb1
  have c := bA.cell
  have d := bB.cell
  cases h0 : pairs Pa.same x.params y.params
  · have E0 := Lib.hid h0
    clear h0
    go_wp2
    go_ret
    exact ⟨ret_eq (by rw [HE.out, E0.out]; try rfl), B1⟩
  · have E0 := Lib.hid h0
    clear h0
    go_wp2_with fail
    refine (eqType_w x.res y.res _ _ _ (H1.out.1.below B1) (H1.out.2.below B1)).mono ?_
    rintro e w2 ⟨rfl, hb2⟩
    have B2 := B1.trans (hb2.mono B1.size)
    replace bA := bA.call hb2
    replace bB := bB.call hb2
    clear c d B1
    clear hb2
    have c := bA.cell
    have d := bB.cell
    cases h1 : Ty.same x.res y.res
    · have E1 := Lib.hid h1
      clear h1
      go_wp2
      go_ret
      exact ⟨ret_eq (by rw [HE.out, E0.out, E1.out]; try rfl), B2⟩
    · have E1 := Lib.hid h1
      clear h1
      cases h2 : (x.async == y.async)
      · have g2 : (x.async != y.async) = true := by simp [bne, h2]
        have E2 := Lib.hid h2
        go_wp2
        go_ret
        exact ⟨ret_eq (by rw [HE.out, E0.out, E1.out, E2.out]; try rfl), B2⟩
      · have g2 : (x.async != y.async) = false := by simp [bne, h2]
        have E2 := Lib.hid h2
        go_wp2
        go_ret
        exact ⟨ret_eq (by rw [HE.out, E0.out, E1.out, E2.out]; try rfl), B2⟩

end Go.Proofs.YtoioljkhinodaaaGreatDoor
