/- PathText: the law's walk. -/
import Derived.Test.YtadngjalhekmlaaDoorOPath
import Derived.Test.YtadngjalhekmlaaDoorGPath
import Derived.Test.YtadngjalhekmlaaDoorPathTx
namespace Go.Proofs.YtadngjalhekmlaaDoor
open Go.RowKit Go.Shelf Go.ChangeShapes Go.WideShapes

/-- A copy of a path is its three texts. -/
theorem toPath_v (x : Pt) (cs : List Value) (w : World) (h : D.Ats w anyB x.ds cs) (ht : D.totals x.ds ≤ 1048576) :
    Calls Tryd.prog 29 #[.agg cs.toArray] w fun e w' => e = .returned (.agg #[.string x.pkg, .string x.name, .string x.ver]) ∧ Below w.heap.size w w' := by
  refine (toPath_w x cs w h ht).mono ?_
  rintro e w1 ⟨cs1, rfl, h1, hb⟩
  obtain ⟨rfl, -⟩ := Pt.open_ h1
  exact ⟨rfl, hb⟩
set_option maxHeartbeats 2000000 in
set_option maxRecDepth 20000 in
theorem law_FnExactPathText {H : Type} {enc : TypeId × Value → H} {b0 : Nat} {w : World} (v : Value) (d : DataW H) (p : List MemPlace) (hv : Value.okWide Tryd.prog w .any b0 43 v)
    (h : DataW.Trod enc Tryd.prog w 0 (fun _ => true) true 43 v d p) (ht : VerW w) :
    Calls Tryd.prog 9 #[v] w fun e w' => e = .returned (.bool true) ∧ Below w.heap.size w w' := by
  obtain ⟨cs, X, rfl, hx⟩ := Path_arg hv h
  clear hv h
  obtain ⟨rfl, zA0, zA1, zA2⟩ := Pt.open_ hx
  have hT : D.totals X.ds = X.pkg.size + X.name.size + X.ver.size := by simp [Pt.ds, D.totals, D.total] <;> omega
  have HX := Lib.hid hx
  have HT := Lib.hid ht
  clear hx ht zA0 zA1 zA2
  go_enter Tryd.func9, Tryd.ntmps9
  go_wp2_with fail
  refine (szPath_w X _ _ _ (HX.out.below (by repeat (first | exact Below.refl _ _ | refine Below.alloc ?_ (by first | omega | (simp <;> omega)) _))) (by omega) (by omega)).mono ?_
  rintro e w1 ⟨rfl, hb1⟩
  obtain ⟨B1, bA⟩ := box1 (cA := [_, _, _]) hb1
  clear hb1
  by_cases hle : (D.totals X.ds : Int) ≤ 1048576
  · rw [left_yes hle]
    have hg : ¬ (1048576 - (D.totals X.ds : Int) < 0) := by omega
    have h1 : X.pkg.size ≤ 1048576 := by omega
    have h2 : X.name.size ≤ 1048576 := by omega
    have h3 : X.ver.size ≤ 1048576 := by omega
    have HTo := Lib.hid (fun (w' : World) (hb : Below w.heap.size w w') => toPath_v X _ w' (HX.out.below hb) (by omega))
    have HS := Lib.hid (fun w' => pathText_s X.pkg X.name X.ver h1 h2 h3 w')
    have HI := Lib.hid (fun w' => pathText_i X.pkg X.name X.ver h1 h2 h3 w')
    clear h1 h2 h3 hT
    have c := bA.cell
    go_wp2_with fail
    refine (HTo.out _ B1).mono ?_
    rintro e w2 ⟨rfl, hb2⟩
    have B2 := B1.trans (hb2.mono B1.size)
    replace bA := bA.call hb2
    clear c hb2
    go_wp2_with fail
    refine (HS.out _).mono ?_
    rintro e w3 ⟨rfl, hb3⟩
    have B3 := B2.trans (hb3.mono B2.size)
    replace bA := bA.call hb3
    clear hb3
    have c := bA.cell
    go_wp2_with fail
    refine (HTo.out _ B3).mono ?_
    rintro e w4 ⟨rfl, hb4⟩
    have B4 := B3.trans (hb4.mono B3.size)
    clear c hb4
    go_wp2_with fail
    refine (HI.out _ (HT.out.below B4)).mono ?_
    rintro e w5 ⟨rfl, hb5⟩
    have B5 := B4.trans (hb5.mono B4.size)
    clear hb5
    generalize pathOr X.pkg X.name X.ver = R at *
    have hne : (R.toList != R.toList) = false := by simp
    go_wp2
    go_ret
    exact ⟨rfl, B5⟩
  · rw [left_no hle]
    go_wp2
    go_ret
    exact ⟨rfl, B1⟩
end Go.Proofs.YtadngjalhekmlaaDoor
