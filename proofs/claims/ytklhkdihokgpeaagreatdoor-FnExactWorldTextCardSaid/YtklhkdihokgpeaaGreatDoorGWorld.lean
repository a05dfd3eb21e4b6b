/- World: how much the law counts, its deep copy, its comparison. -/
import Derived.Test.YtklhkdihokgpeaaGreatDoorGStrs
import Derived.Test.YtklhkdihokgpeaaGreatDoorTyM
import Derived.Test.YtklhkdihokgpeaaGreatDoorPkG
namespace Go.Proofs.YtklhkdihokgpeaaGreatDoor
open Go.RowKit

def SzWorld (x : Wo) : Prop := ∀ (cs : List Value) (a : Int) (w : World), D.Ats w anyB x.ds cs → 0 ≤ a → a ≤ 1048576 →
  Calls Tryz.prog 12 #[.agg cs.toArray, .int .i64 a] w fun e w' => e = .returned (.int .i64 (left a (D.totals x.ds))) ∧ Below w.heap.size w w'

set_option maxHeartbeats 1000000 in
theorem szWorld_w (x : Wo) : SzWorld x := by
  intro cs a w hcs h0 h1
  obtain ⟨AA, Ac, AA', Ac', rfl, zA0, zA1, zA2, sA3, sA4⟩ := Wo.open_ hcs
  have hT : D.totals x.ds = x.pkg.size + x.name.size + x.ver.size + (rows Fa.ds 5 x.imps).total + (rows Fa.ds 5 x.exps).total := by simp [Wo.ds, D.totals, D.total] <;> omega
  have HT := Lib.hid hT
  have H3 := Lib.hid sA3
  have H4 := Lib.hid sA4
  unfold maxLen at zA0 zA1 zA2
  clear hT sA3 sA4
  by_cases g0 : (x.pkg.size : Int) ≤ a
  · skip
    by_cases g1 : (x.name.size : Int) ≤ a - (x.pkg.size : Int)
    · skip
      by_cases g2 : (x.ver.size : Int) ≤ a - (x.pkg.size : Int) - (x.name.size : Int)
      · skip
        go_enter Tryz.func12, Tryz.ntmps12
        go_wp2_with fail
        refine (szFaceS_w x.imps (fun x _ => szFace_w x) _ _ _ (H3.out.below (by repeat (first | exact Below.refl _ _ | refine Below.alloc ?_ (by first | omega | (simp <;> omega)) _))) (by omega) (by omega)).mono ?_
        rintro e w1 ⟨rfl, hb1⟩
        obtain ⟨B1, bA⟩ := box1 (cA := [_, _, _, _, _]) hb1
        clear hb1
        have c := bA.cell
        by_cases g3 : ((rows Fa.ds 5 x.imps).total : Int) ≤ a - (x.pkg.size : Int) - (x.name.size : Int) - (x.ver.size : Int)
        · rw [left_yes g3]
          have e3 : ¬ (a - (x.pkg.size : Int) - (x.name.size : Int) - (x.ver.size : Int) - ((rows Fa.ds 5 x.imps).total : Int) < 0) := by omega
          go_wp2_with fail
          refine (szFaceS_w x.exps (fun x _ => szFace_w x) _ _ _ (H4.out.below B1) (by omega) (by omega)).mono ?_
          rintro e w2 ⟨rfl, hb2⟩
          have B2 := B1.trans (hb2.mono B1.size)
          replace bA := bA.call hb2
          clear c
          clear hb2 B1
          have c := bA.cell
          by_cases g4 : ((rows Fa.ds 5 x.exps).total : Int) ≤ a - (x.pkg.size : Int) - (x.name.size : Int) - (x.ver.size : Int) - ((rows Fa.ds 5 x.imps).total : Int)
          · rw [left_yes g4]
            have e4 : ¬ (a - (x.pkg.size : Int) - (x.name.size : Int) - (x.ver.size : Int) - ((rows Fa.ds 5 x.imps).total : Int) - ((rows Fa.ds 5 x.exps).total : Int) < 0) := by omega
            go_wp2
            go_ret
            have e9 : left a (D.totals x.ds) = a - (x.pkg.size : Int) - (x.name.size : Int) - (x.ver.size : Int) - ((rows Fa.ds 5 x.imps).total : Int) - ((rows Fa.ds 5 x.exps).total : Int) := by rw [left_yes (by rw [HT.out]; omega), HT.out]; first | done | omega
            exact ⟨ret_eq (by rw [e9]; try rfl), B2⟩
          · rw [left_no g4]
            go_wp2
            go_ret
            exact ⟨ret_eq (by rw [left_no (by rw [HT.out]; omega)]; try rfl), B2⟩
        · rw [left_no g3]
          go_wp2
          go_ret
          exact ⟨ret_eq (by rw [left_no (by rw [HT.out]; omega)]; try rfl), B1⟩
      · skip
        go_enter Tryz.func12, Tryz.ntmps12
        go_wp2
        go_ret
        exact ⟨ret_eq (by rw [left_no (by rw [HT.out]; omega)]; try rfl), (by repeat (first | exact Below.refl _ _ | refine Below.alloc ?_ (by first | omega | (simp <;> omega)) _))⟩
    · skip
      go_enter Tryz.func12, Tryz.ntmps12
      go_wp2
      go_ret
      exact ⟨ret_eq (by rw [left_no (by rw [HT.out]; omega)]; try rfl), (by repeat (first | exact Below.refl _ _ | refine Below.alloc ?_ (by first | omega | (simp <;> omega)) _))⟩
  · skip
    go_enter Tryz.func12, Tryz.ntmps12
    go_wp2
    go_ret
    exact ⟨ret_eq (by rw [left_no (by rw [HT.out]; omega)]; try rfl), (by repeat (first | exact Below.refl _ _ | refine Below.alloc ?_ (by first | omega | (simp <;> omega)) _))⟩

def ToWorld (x : Wo) : Prop := ∀ (cs : List Value) (w : World), D.Ats w anyB x.ds cs → D.totals x.ds ≤ 1048576 → Calls Tryz.prog 14 #[.agg cs.toArray] w (RetDs x.ds w)

set_option maxHeartbeats 1000000 in
theorem toWorld_w (x : Wo) : ToWorld x := by
  intro cs w hcs htot
  obtain ⟨AA, Ac, AA', Ac', rfl, zA0, zA1, zA2, sA3, sA4⟩ := Wo.open_ hcs
  have hT : D.totals x.ds = x.pkg.size + x.name.size + x.ver.size + (rows Fa.ds 5 x.imps).total + (rows Fa.ds 5 x.exps).total := by simp [Wo.ds, D.totals, D.total] <;> omega
  rw [hT] at htot
  have H3 := Lib.hid sA3
  have H4 := Lib.hid sA4
  have KzA0 := Lib.hid zA0
  have KzA1 := Lib.hid zA1
  have KzA2 := Lib.hid zA2
  clear hT sA3 sA4 zA0 zA1 zA2
  go_enter Tryz.func14, Tryz.ntmps14
  go_wp2_with fail
  refine (toFaceS_w x.imps (fun x _ => toFace_w x) _ _ (H3.out.below (by repeat (first | exact Below.refl _ _ | refine Below.alloc ?_ (by first | omega | (simp <;> omega)) _))) (by omega)).mono ?_
  rintro e w1 ⟨r1, rfl, q1, hb1⟩
  obtain ⟨R1A, R1c, rfl, -, -⟩ := rows_form Fa.len q1
  obtain ⟨B1, bA, bB, bC⟩ := box3 (cA := [_, _, _, _, _]) (cB := [_, _, _, _, _]) (cC := [_, _, _, _, _]) hb1
  replace q1 := q1.weaken (S' := fun b => w.heap.size + 2 < b) (fun b hb => by simp at hb; omega)
  clear hb1
  have c := bA.cell
  have f := bC.cell
  have fz := bC.frozen
  have zz := bC.lt
  have Q1 := Lib.hid q1
  clear q1
  have q_ := True.intro
  clear q_
  have q1 := Q1.out
  clear Q1
  go_wp2_with fail
  refine (toFaceS_w x.exps (fun x _ => toFace_w x) _ _ (H4.out.below (by repeat (first | exact B1 | refine Below.setCell ?_ (by simp <;> omega) _))) (by omega)).mono ?_
  rintro e w2 ⟨r2, rfl, q2, hb2⟩
  obtain ⟨R2A, R2c, rfl, -, -⟩ := rows_form Fa.len q2
  have hsz := hb2.size
  simp at hsz
  have B2 : Below w.heap.size w w2 := Below.trans (by repeat (first | exact B1 | refine Below.setCell ?_ (by simp <;> omega) _)) (hb2.mono (by have := B1.size; simp; omega))
  have lC := bC.lt
  replace bA := (Box.set_ne (bA) (by simp <;> omega) (.slice R1A x.imps.length R1c)).call hb2
  replace bB := (Box.set_ne (bB) (by simp <;> omega) (.slice R1A x.imps.length R1c)).call hb2
  replace bC := ((bC.set 3 (.slice R1A x.imps.length R1c))).call hb2
  simp only [List.set] at bC
  replace q1 := (D.At.set (q1) (by simp <;> omega) (.slice R1A x.imps.length R1c)).below hb2
  replace q2 := q2.weaken (S' := fun b => w.heap.size + 2 < b) (fun b hb => by simp at hb; omega)
  clear hsz lC
  clear hb2 c f fz zz
  clear B1
  have c := bA.cell
  have f := bC.cell
  have fz := bC.frozen
  have zz := bC.lt
  have Q1 := Lib.hid q1
  clear q1
  have Q2 := Lib.hid q2
  clear q2
  have b := bB.cell
  have bz := bB.frozen
  go_wp2
  refine bodyPost_ret (v := .agg #[.string x.pkg, .string x.name, .string x.ver, .slice R1A x.imps.length R1c, .slice R2A x.exps.length R2c]) (by simp [results, Tryz.results14, go_sem, b]) rfl ⟨[.string x.pkg, .string x.name, .string x.ver, .slice R1A x.imps.length R1c, .slice R2A x.exps.length R2c], rfl, ?_, ?_⟩
  · refine D.Ats.weaken (S := fun b => w.heap.size + 2 < b) ?_ (fun b hb => by omega)
    repeat (refine D.Ats.set ?_ (by simp <;> omega) _)
    have p1 := Q1.out
    have p2 := Q2.out
    exact Wo.mk_ KzA0.out KzA1.out KzA2.out p1 p2
  · repeat (refine Below.setCell ?_ (by simp <;> omega) _)
    exact B2

set_option maxHeartbeats 1000000 in
theorem eqWorld_w (x : Wo) : IsQ 16 Wo.ds Wo.same x := by
  intro y cs cs' w hcs hcs'
  obtain ⟨AA, Ac, AA', Ac', rfl, zA0, zA1, zA2, sA3, sA4⟩ := Wo.open_ hcs
  obtain ⟨BA, Bc, BA', Bc', rfl, zB0, zB1, zB2, sB3, sB4⟩ := Wo.open_ hcs'
  have hE : Wo.same x y = ((x.pkg.toList == y.pkg.toList) && ((x.name.toList == y.name.toList) && ((x.ver.toList == y.ver.toList) && (pairs Fa.same x.imps y.imps && (pairs Fa.same x.exps y.exps))))) := Wo.same_eq _ _
  have HE := Lib.hid hE
  have H3 := Lib.hid (And.intro sA3 sB3)
  have H4 := Lib.hid (And.intro sA4 sB4)
  clear hE zA0 zB0 zA1 zB1 zA2 zB2 sA3 sB3 sA4 sB4
  show Calls Tryz.prog 16 _ _ (fun e w' => e = .returned (.bool (Wo.same x y)) ∧ Below w.heap.size w w')
  cases h0 : (x.pkg.toList == y.pkg.toList)
  · have g0 : (x.pkg.toList != y.pkg.toList) = true := by simp [bne, h0]
    have E0 := Lib.hid h0
    go_enter Tryz.func16, Tryz.ntmps16
    go_wp2
    go_ret
    exact ⟨ret_eq (by rw [HE.out, E0.out]; try rfl), (by repeat (first | exact Below.refl _ _ | refine Below.alloc ?_ (by first | omega | (simp <;> omega)) _))⟩
  · have g0 : (x.pkg.toList != y.pkg.toList) = false := by simp [bne, h0]
    have E0 := Lib.hid h0
    cases h1 : (x.name.toList == y.name.toList)
    · have g1 : (x.name.toList != y.name.toList) = true := by simp [bne, h1]
      have E1 := Lib.hid h1
      go_enter Tryz.func16, Tryz.ntmps16
      go_wp2
      go_ret
      exact ⟨ret_eq (by rw [HE.out, E0.out, E1.out]; try rfl), (by repeat (first | exact Below.refl _ _ | refine Below.alloc ?_ (by first | omega | (simp <;> omega)) _))⟩
    · have g1 : (x.name.toList != y.name.toList) = false := by simp [bne, h1]
      have E1 := Lib.hid h1
      cases h2 : (x.ver.toList == y.ver.toList)
      · have g2 : (x.ver.toList != y.ver.toList) = true := by simp [bne, h2]
        have E2 := Lib.hid h2
        go_enter Tryz.func16, Tryz.ntmps16
        go_wp2
        go_ret
        exact ⟨ret_eq (by rw [HE.out, E0.out, E1.out, E2.out]; try rfl), (by repeat (first | exact Below.refl _ _ | refine Below.alloc ?_ (by first | omega | (simp <;> omega)) _))⟩
      · have g2 : (x.ver.toList != y.ver.toList) = false := by simp [bne, h2]
        have E2 := Lib.hid h2
        go_enter Tryz.func16, Tryz.ntmps16
        go_wp2_with fail
        refine (eqFaceS_w x.imps y.imps (fun x _ => eqFace_w x) _ _ _ (H3.out.1.below (by repeat (first | exact Below.refl _ _ | refine Below.alloc ?_ (by first | omega | (simp <;> omega)) _))) (H3.out.2.below (by repeat (first | exact Below.refl _ _ | refine Below.alloc ?_ (by first | omega | (simp <;> omega)) _)))).mono ?_
        rintro e w1 ⟨rfl, hb1⟩
        obtain ⟨B1, bA, bB⟩ := box2 (cA := [_, _, _, _, _]) (cB := [_, _, _, _, _]) hb1
        clear hb1
        have c := bA.cell
        have d := bB.cell
        cases h3 : pairs Fa.same x.imps y.imps
        · have E3 := Lib.hid h3
          clear h3
          go_wp2
          go_ret
          exact ⟨ret_eq (by rw [HE.out, E0.out, E1.out, E2.out, E3.out]; try rfl), B1⟩
        · have E3 := Lib.hid h3
          clear h3
          go_wp2_with fail
          refine (eqFaceS_w x.exps y.exps (fun x _ => eqFace_w x) _ _ _ (H4.out.1.below B1) (H4.out.2.below B1)).mono ?_
          rintro e w2 ⟨rfl, hb2⟩
          have B2 := B1.trans (hb2.mono B1.size)
          replace bA := bA.call hb2
          replace bB := bB.call hb2
          clear c d B1
          clear hb2
          have c := bA.cell
          have d := bB.cell
          cases h4 : pairs Fa.same x.exps y.exps
          · have E4 := Lib.hid h4
            clear h4
            go_wp2
            go_ret
            exact ⟨ret_eq (by rw [HE.out, E0.out, E1.out, E2.out, E3.out, E4.out]; try rfl), B2⟩
          · have E4 := Lib.hid h4
            clear h4
            go_wp2
            go_ret
            exact ⟨ret_eq (by rw [HE.out, E0.out, E1.out, E2.out, E3.out, E4.out]; try rfl), B2⟩

end Go.Proofs.YtklhkdihokgpeaaGreatDoor
