/- FuncIn: the law. -/
import Derived.Test.YtpfkhojhkjaafaaGreatDoorPkO
import Derived.Test.YtpfkhojhkjaafaaGreatDoorPkG
import Derived.Test.YtpfkhojhkjaafaaGreatDoorPkP
import Derived.Test.YtpfkhojhkjaafaaGreatDoorPkMk
import Derived.Test.YtpfkhojhkjaafaaGreatDoorFnC
import Derived.Deep.DeepCutAuto
namespace Go.Proofs.YtpfkhojhkjaafaaGreatDoor
open Go.RowKit Go.ChangeShapes Go.WideShapes

theorem Pa.counts_le (x : Pa) : D.counts x.ds ≤ 7 * D.totals x.ds + 5 := by
  have h := Ty.counts_le x.ty
  have e1 : D.counts x.ds = 1 + D.counts x.ty.ds := by simp [Pa.ds, D.counts, D.count]
  have e2 : D.totals x.ds = x.name.size + D.totals x.ty.ds := by simp [Pa.ds, D.totals, D.total]
  omega
theorem flat_counts {α : Type} {f : α → List D} {c : Nat} {l : List α} (h : ∀ x ∈ l, D.counts (f x) ≤ 7 * D.totals (f x) + c) : D.counts (l.flatMap f) ≤ 7 * D.totals (l.flatMap f) + c * l.length := by
  induction l with
  | nil => simp [D.counts]
  | cons y r ih =>
    have h1 := h y (by simp)
    have h2 := ih (fun z hz => h z (by simp [hz]))
    have e : c * (r.length + 1) = c * r.length + c := Nat.mul_succ _ _
    rw [List.flatMap_cons, D.counts_append, D.totals_append, List.length_cons, e]
    omega
theorem Fn.counts_le (x : Fn) : D.counts x.ds ≤ 7 * D.totals x.ds + 6 := by
  have h := Ty.counts_le x.res
  have h1 := flat_counts (f := Pa.ds) (l := x.params) (fun y _ => Pa.counts_le y)
  have e1 : D.counts x.ds = D.counts (x.params.flatMap Pa.ds) + (D.counts x.res.ds + 1) := by simp [Fn.ds, D.counts, D.count, rows, D.counts_append]
  have e2 : D.totals x.ds = (x.params.length + D.totals (x.params.flatMap Pa.ds)) + D.totals x.res.ds := by simp [Fn.ds, D.totals, D.total, rows, D.totals_append]
  omega
theorem Fu.counts_le (x : Fu) : D.counts x.ds ≤ 7 * D.totals x.ds + 7 := by
  have h := Fn.counts_le x.ty
  have e1 : D.counts x.ds = 1 + D.counts x.ty.ds := by simp [Fu.ds, D.counts, D.count]
  have e2 : D.totals x.ds = x.name.size + D.totals x.ty.ds := by simp [Fu.ds, D.totals, D.total]
  omega
theorem Fa.topsC_le (x : Fa) : D.topsC x.ds ≤ 7 * D.totals x.ds := by
  have h1 := flat_counts (f := Fu.ds) (l := x.funcs) (fun y _ => Fu.counts_le y)
  have h2 := strs_counts x.owns
  have e1 : D.topsC x.ds = D.counts (x.owns.flatMap strD) + D.counts (x.funcs.flatMap Fu.ds) := by simp [Fa.ds, D.topsC, D.topC, strs, rows]
  have e2 : D.totals x.ds = x.pkg.size + x.name.size + x.ver.size + (x.owns.length + D.totals (x.owns.flatMap strD)) + (x.funcs.length + D.totals (x.funcs.flatMap Fu.ds)) := by simp [Fa.ds, D.totals, D.total, strs, rows]; omega
  omega
theorem topsC_le_counts2 (l : List D) : D.topsC l ≤ D.counts l := by
  induction l with
  | nil => simp [D.topsC, D.counts]
  | cons d r ih => have : D.topC d ≤ D.count d := by cases d <;> simp [D.topC, D.count]
                   simp only [D.topsC, D.counts]; omega
theorem fnIn_count (x : Fa) (s : ByteArray) (Rf : Fn) (Rb : Bool) (hr : fnIn x s = (Rf, Rb)) (ht : D.totals x.ds ≤ 1048576) : 1 + D.topsC Rf.ds ≤ 1000000000000 := by
  have hz : D.topsC zFn.ds = 0 := by simp [zFn, Fn.ds, Ty.ds_eq, D.topsC, D.topC, rows, strs, D.counts]
  have e : Rf = (fnIn x s).1 := by rw [hr]
  rw [e]
  unfold fnIn
  split
  · split
    · rw [hz]; omega
    · split
      · rw [hz]; omega
      · rename_i u hu
        have h1 := fu_total (by omega) hu
        have h2 := Fn.counts_le u.ty
        have h3 := topsC_le_counts2 u.ty.ds
        show 1 + D.topsC u.ty.ds ≤ _
        omega
  · rw [hz]; omega

theorem toFace_cFuncIn (x : Fa) (cs : List Value) (w : World) (h : D.Ats w anyB x.ds cs) (ht : D.totals x.ds ≤ 1048576) : Calls Tryz.prog 8 #[.agg cs.toArray] w (RetDs x.ds w) := toFace_w x cs w h ht
theorem eqFace_cFuncIn (x y : Fa) (cs cs' : List Value) (w : World) (h : D.Ats w anyB x.ds cs) (h' : D.Ats w anyB y.ds cs') :
    Calls Tryz.prog 11 #[.agg cs.toArray, .agg cs'.toArray] w fun e w' => e = .returned (.bool (Fa.same x y)) ∧ Below w.heap.size w w' := eqFace_w x y cs cs' w h h'

set_option maxHeartbeats 4000000 in
set_option maxRecDepth 20000 in
theorem law_FnExactFuncIn {H : Type} {enc : TypeId × Value → H} {b0 : Nat} {w : World} (v : Value) (d : DataW H) (p : List MemPlace) (hv : Value.okWide Tryz.prog w .any b0 25 v)
    (h : DataW.Trod enc Tryz.prog w 0 (fun _ => true) true 25 v d p) (s : ByteArray) (_hsz : s.data.toList.length ≤ maxLen) (ht : VerW w) :
    Calls Tryz.prog 3 #[v, .string s] w fun e w' => e = .returned (.bool true) ∧ Below w.heap.size w w' := by
  obtain ⟨cs, X, rfl, hx⟩ := Face_arg hv h
  clear hv h
  obtain ⟨k0, k1, k2, k3, k4, k5, k6, k7, k8, rfl⟩ := Fa.form hx
  have HX := Lib.hid hx
  have HVW := Lib.hid ht
  clear hx ht
  by_cases hs1 : s.size ≤ 1048576
  rotate_left
  · have hs2 : (1048576 : Int) < (s.size : Int) := by omega
    go_enter Tryz.func3, Tryz.ntmps3
    go_wp2
    go_ret
    exact ⟨rfl, (Below.refl _ _).alloc (Nat.le_refl _) _⟩
  have hs2 : ¬ (1048576 : Int) < (s.size : Int) := by omega
  go_enter Tryz.func3, Tryz.ntmps3
  go_wp2_with fail
  refine (szFace_w X _ _ _ (HX.out.below (by repeat (first | exact Below.refl _ _ | refine Below.alloc ?_ (by first | omega | (simp <;> omega)) _))) (by omega) (by omega)).mono ?_
  rintro e w1 ⟨rfl, hb1⟩
  obtain ⟨B1, bA⟩ := box1 (cA := [_, _, _, _, _]) hb1
  clear hb1
  by_cases hle : (D.totals X.ds : Int) ≤ 1048576
  · rw [left_yes hle]
    have hg : ¬ (1048576 - (D.totals X.ds : Int) < 0) := by omega
    have c := bA.cell
    go_wp2_with fail
    refine (toFace_w X _ _ (HX.out.below B1) (by omega)).mono ?_
    rintro e w2 ⟨cs2, rfl, hcs2, hb2⟩
    obtain ⟨z0, z1, z2, z3, z4, z5, z6, z7, z8, rfl⟩ := Fa.form hcs2
    have B2 := B1.trans (hb2.mono B1.size)
    replace bA := bA.call hb2
    have q2 := Lib.hid (show D.Ats w2 anyB X.ds _ from hcs2.weaken (fun _ _ => trivial))
    clear c hb2 hcs2
    have c := bA.cell
    obtain ⟨R, hR⟩ : ∃ R, fnIn X s = R := ⟨_, rfl⟩
    obtain ⟨Rf, Rb⟩ := R
    have hbb : (Rb != Rb) = false := by simp
    have HR := Lib.hid hR
    have HC := Lib.hid (fnIn_count X s Rf Rb hR (by omega))
    clear hR
    go_wp2_with fail
    refine (fnInRet_s X s _ _ _ HR.out q2.out (by omega)).mono ?_
    rintro e w3 ⟨cs3r, rfl, at3, hb3⟩
    obtain ⟨r3_0, r3_1, r3_2, r3_3, r3_4, r3_5, r3_6, r3_7, r3_8, r3_9, r3_10, r3_11, rfl⟩ := Fn.form at3.ats
    have B3 := B2.trans (hb3.mono B2.size)
    replace bA := bA.call hb3
    have sB3 : w.heap.size ≤ w3.heap.size := B3.size
    have lB3 : w.heap.size < w3.heap.size := bA.lt
    have aW : Below w3.heap.size w3 (w3.alloc (.cells #[.slice r3_0 r3_1 r3_2, .int .i64 r3_3, .string r3_4, .slice r3_5 r3_6 r3_7, .slice r3_8 r3_9 r3_10, .bool r3_11] 32)) := (Below.refl _ _).alloc (Nat.le_refl _) _
    have bW : Box (w3.alloc (.cells #[.slice r3_0 r3_1 r3_2, .int .i64 r3_3, .string r3_4, .slice r3_5 r3_6 r3_7, .slice r3_8 r3_9 r3_10, .bool r3_11] 32)) w3.heap.size 32 [.slice r3_0 r3_1 r3_2, .int .i64 r3_3, .string r3_4, .slice r3_5 r3_6 r3_7, .slice r3_8 r3_9 r3_10, .bool r3_11] := Box.new w3 _ _
    replace bA := bA.call aW
    replace B3 := B3.trans (aW.mono B3.size)
    have lA3 := bA.lt
    have H0 := Lib.hid (show D.Ats (w3.alloc (.cells #[.slice r3_0 r3_1 r3_2, .int .i64 r3_3, .string r3_4, .slice r3_5 r3_6 r3_7, .slice r3_8 r3_9 r3_10, .bool r3_11] 32)) (fun b => b < w3.heap.size) Rf.ds [.slice r3_0 r3_1 r3_2, .int .i64 r3_3, .string r3_4, .slice r3_5 r3_6 r3_7, .slice r3_8 r3_9 r3_10, .bool r3_11] from at3.lt_.below aW)
    clear c hb3 q2 at3
    have c := bA.cell
    have cW := bW.cell
    go_wp2_with fail
    refine (toFace_p X _ _ (HX.out.below B3) (by omega)).mono ?_
    rintro e w4 ⟨cs4, rfl, hcs4, hb4⟩
    obtain ⟨y0, y1, y2, y3, y4, y5, y6, y7, y8, rfl⟩ := Fa.form hcs4.ats
    have B4 := B3.trans (hb4.mono B3.size)
    have s34 : w3.heap.size + 1 ≤ w4.heap.size := by have := hb4.size; simpa using this
    replace bA := bA.call hb4
    replace bW := bW.call hb4
    replace H0 := Lib.hid (H0.out.below hb4)
    have Q4 := Lib.hid (hcs4.weaken (lo' := w3.heap.size + 1) (hi' := w4.heap.size) (by simp) (Nat.le_refl _))
    clear c cW hb4 hcs4
    have c := bA.cell
    have cW := bW.cell
    have lA := bA.lt
    go_wp2_with fail
    refine (fnInRet_i X s _ _ (HVW.out.below (B4.alloc B4.size _)) _ HR.out (Q4.out.ats.below ((Below.refl _ _).alloc (Nat.le_refl _) _)) (by omega)).mono ?_
    rintro e w5 ⟨cs5r, rfl, at5, hb5⟩
    obtain ⟨r5_0, r5_1, r5_2, r5_3, r5_4, r5_5, r5_6, r5_7, r5_8, r5_9, r5_10, r5_11, rfl⟩ := Fn.form at5.ats
    have bC : Box w5 w4.heap.size 37 [.string y0, .string y1, .string y2, .slice y3 y4 y5, .slice y6 y7 y8] := (Box.new w4 _ _).call hb5
    have B5 := (B4.alloc B4.size _).trans (hb5.mono (Nat.le_trans B4.size (by simp)))
    have s45 : w4.heap.size + 1 ≤ w5.heap.size := by have := hb5.size; simpa using this
    replace bA := (bA.alloc _).call hb5
    replace bW := (bW.alloc _).call hb5
    replace H0 := Lib.hid ((H0.out.below ((Below.refl _ _).alloc (Nat.le_refl _) _)).below hb5)
    have Q5 := Lib.hid ((Q4.out.below ((Below.refl _ _).alloc (Nat.le_refl _) _) (Nat.le_refl _)).below hb5 (by simp))
    have G5 := Lib.hid (at5.weaken (lo' := w4.heap.size + 1) (hi' := w5.heap.size) (by simp) (Nat.le_refl _))
    have aG : Below w5.heap.size w5 (w5.alloc (.cells #[.slice r5_0 r5_1 r5_2, .int .i64 r5_3, .string r5_4, .slice r5_5 r5_6 r5_7, .slice r5_8 r5_9 r5_10, .bool r5_11] 32)) := (Below.refl _ _).alloc (Nat.le_refl _) _
    have bG : Box (w5.alloc (.cells #[.slice r5_0 r5_1 r5_2, .int .i64 r5_3, .string r5_4, .slice r5_5 r5_6 r5_7, .slice r5_8 r5_9 r5_10, .bool r5_11] 32)) w5.heap.size 32 [.slice r5_0 r5_1 r5_2, .int .i64 r5_3, .string r5_4, .slice r5_5 r5_6 r5_7, .slice r5_8 r5_9 r5_10, .bool r5_11] := Box.new w5 _ _
    replace bA := bA.call aG
    replace bW := bW.call aG
    replace bC := bC.call aG
    replace B5 := B5.trans (aG.mono B5.size)
    replace H0 := Lib.hid (H0.out.below aG)
    replace Q5 := Lib.hid (Q5.out.below aG (by omega))
    replace G5 := Lib.hid (G5.out.below aG (Nat.le_refl _))
    clear c cW hb5 Q4 lA B4 at5
    have c := bA.cell
    have cW := bW.cell
    have cG := bG.cell
    have f := bC.cell
    go_wp2_with fail
    refine (eqFuncType_w Rf Rf _ _ _ G5.out.ats H0.out.any_).mono ?_
    rintro e w6 ⟨rfl, hb6⟩
    have B6 := B5.trans (hb6.mono B5.size)
    have s56 : w5.heap.size + 1 ≤ w6.heap.size := by have := hb6.size; simpa using this
    replace bA := bA.call hb6
    replace bW := bW.call hb6
    replace bG := bG.call hb6
    replace bC := bC.call hb6
    replace H0 := Lib.hid (H0.out.below hb6)
    replace Q5 := Lib.hid (Q5.out.below hb6 (by simp; omega))
    replace G5 := Lib.hid (G5.out.below hb6 (by simp))
    have hrefl : Fn.same Rf Rf = true := Fn.same_refl Rf
    rw [hrefl]
    clear c cW cG f hb6 hrefl B5
    have c := bA.cell
    have cW := bW.cell
    have cG := bG.cell
    have f := bC.cell
    have q5d : D.Ats w6.drew anyB X.ds _ := Q5.out.ats.drew
    go_upto_region 12 with fail
    go_cut [52] (fun s wx => s = .bool false ∧ Below w6.heap.size w6 wx)
    case first =>
      go_region_with (first
        | (go_at_call 8; ((with_reducible refine (toFace_cFuncIn X _ _ (HX.out.below B6.drew) (by omega)).mono ?_); rintro e w8 ⟨cs8, rfl, hcs8, hb8⟩; have q8 : D.Ats w8 anyB X.ds cs8 := hcs8.weaken (fun _ _ => trivial); have f8 := (Box.call (w := w6.drew) bC hb8).cell))
        | (go_at_call 11; ((with_reducible refine (eqFace_cFuncIn X X _ _ _ (q5d.below hb8) q8).mono ?_); rintro e w9 ⟨rfl, hb9⟩)))
      all_goals
        have fin := Lib.hid (show Below w6.heap.size w6 w9 from ((Below.refl _ w6).drew.trans hb8).trans (hb9.mono hb8.size))
        have hrf := Fa.same_refl X
        go_wp2_with fail
        go_meet
        exact ⟨by rw [hrf]; rfl, fin.out⟩
    case rest =>
    obtain ⟨rfl, hb9⟩ := hcut
    obtain ⟨w9, hw9⟩ : ∃ w9, w9 = wc := ⟨_, rfl⟩
    rw [← hw9] at hb9 ⊢
    clear hw9 q5d
    have B9 := B6.trans (hb9.mono B6.size)
    have s69 := hb9.size
    replace bA := bA.call hb9
    replace bW := bW.call hb9
    replace bG := bG.call hb9
    replace bC := bC.call hb9
    replace H0 := Lib.hid (H0.out.below hb9)
    replace Q5 := Lib.hid (Q5.out.below hb9 (by omega))
    replace G5 := Lib.hid (G5.out.below hb9 (by omega))
    clear c cW cG f hb9 B6
    have c := bA.cell
    have cW := bW.cell
    have cG := bG.cell
    have f := bC.cell
    have lA := bA.lt
    obtain ⟨-, lX, hX1, hX2, hX3⟩ := Q5.out
    obtain ⟨-, lG, hG1, hG2, hG3⟩ := G5.out
    have KX := Lib.hid (And.intro hX1 (And.intro hX2 hX3))
    have KG := Lib.hid (And.intro hG1 (And.intro hG2 hG3))
    clear hX1 hX2 hX3 hG1 hG2 hG3 Q5 G5
    have hcX : 1 + D.topsC X.ds ≤ 1000000000000 := by have := Fa.topsC_le X; omega
    -- the argument is marked
    go_wp2_with fail
    refine (markFace_w X _ lX 1 _ _ (by rfl) (by omega) hcX KX.out.1 KX.out.2.1).mono ?_
    rintro e w10 ⟨m10, hm10, rfl, sx, wr10⟩
    have hm0 : ¬ ((m10 : Int) < 0) := by omega
    have B10 := B9.trans (wr10.below B9.size (fun b hb => by have := KX.out.2.2 b hb; have := sB3; omega))
    have s90 := wr10.size
    have nA : w.heap.size ∉ lX := fun hm => by have := KX.out.2.2 _ hm; have := sB3; have := lB3; omega
    have nW : w3.heap.size ∉ lX := fun hm => by have := KX.out.2.2 _ hm; omega
    have nG : w5.heap.size ∉ lX := fun hm => by have := KX.out.2.2 _ hm; omega
    have nC : w4.heap.size ∉ lX := fun hm => by have := KX.out.2.2 _ hm; omega
    replace bA : Box w10 w.heap.size _ _ := (wr10.block _ bA.lt nA).trans bA
    replace bW : Box w10 w3.heap.size _ _ := (wr10.block _ bW.lt nW).trans bW
    replace bG : Box w10 w5.heap.size _ _ := (wr10.block _ bG.lt nG).trans bG
    replace bC : Box w10 w4.heap.size _ _ := (wr10.block _ bC.lt nC).trans bC
    have hkeep : ∀ b, b < w9.heap.size → b < w3.heap.size → w10.heap[b]? = w9.heap[b]? ∧ b < w3.heap.size ∧ b < w10.heap.size := fun b h1 h2 =>
      ⟨wr10.block b h1 (fun hm => by have := KX.out.2.2 _ hm; omega), h2, by omega⟩
    replace H0 := Lib.hid (H0.out.keep (S' := fun b => b < w3.heap.size) hkeep _ _)
    have KG1 := Lib.hid (And.intro (D.Seps.wr KG.out.1 wr10 (fun b hb hm => by have := KX.out.2.2 _ hm; have := KG.out.2.2 _ hb; omega)) KG.out.2)
    clear c cW cG f hm10 sx wr10 KG hkeep nA nC nW nG B9
    have KG := KG1
    clear KG1
    have c := bA.cell
    have cW := bW.cell
    have cG := bG.cell
    have f := bC.cell
    -- the result reads as before
    go_wp2_with fail
    refine (eqFuncType_w Rf Rf _ _ _ (D.Seps.at_ _ _ _ (fun _ _ => trivial) KG.out.1) H0.out.any_).mono ?_
    rintro e w11 ⟨rfl, hb11⟩
    have B11 := B10.trans (hb11.mono B10.size)
    replace bA := bA.call hb11
    replace bW := bW.call hb11
    replace bG := bG.call hb11
    replace H0 := Lib.hid (H0.out.below hb11)
    have KG1 := Lib.hid (And.intro (D.Seps.below KG.out.1 hb11) KG.out.2)
    have s101 := hb11.size
    have hrefl : Fn.same Rf Rf = true := Fn.same_refl Rf
    rw [hrefl]
    clear c cW cG f hb11 hrefl B10 KG bC
    have KG := KG1
    clear KG1
    have c := bA.cell
    have cW := bW.cell
    have cG := bG.cell
    -- the result is marked
    go_wp2_with fail
    refine (markFuncType_w Rf _ lG 1 _ _ (by rfl) (by omega) HC.out KG.out.1 KG.out.2.1).mono ?_
    rintro e w12 ⟨m12, hm12, rfl, sg, wr12⟩
    have HM := Lib.hid hm12
    clear hm12
    have B12 := B11.trans (wr12.below B11.size (fun b hb => by have := KG.out.2.2 b hb; have := sB3; omega))
    have s112 := wr12.size
    have nA : w.heap.size ∉ lG := fun hm => by have := KG.out.2.2 _ hm; have := sB3; have := lB3; omega
    have nW : w3.heap.size ∉ lG := fun hm => by have := KG.out.2.2 _ hm; omega
    have nG : w5.heap.size ∉ lG := fun hm => by have := KG.out.2.2 _ hm; omega
    replace bA : Box w12 w.heap.size _ _ := (wr12.block _ bA.lt nA).trans bA
    replace bW : Box w12 w3.heap.size _ _ := (wr12.block _ bW.lt nW).trans bW
    replace bG : Box w12 w5.heap.size _ _ := (wr12.block _ bG.lt nG).trans bG
    have hkeep : ∀ b, b < w11.heap.size → b < w3.heap.size → w12.heap[b]? = w11.heap[b]? ∧ b < w3.heap.size ∧ b < w12.heap.size := fun b h1 h2 =>
      ⟨wr12.block b h1 (fun hm => by have := KG.out.2.2 _ hm; omega), h2, by omega⟩
    replace H0 := Lib.hid (H0.out.keep (S' := fun b => b < w3.heap.size) hkeep _ _)
    have MG := Lib.hid (show D.Ats w12 anyB (D.topsM 1 Rf.ds) [.slice r5_0 r5_1 r5_2, .int .i64 r5_3, .string r5_4, .slice r5_5 r5_6 r5_7, .slice r5_8 r5_9 r5_10, .bool r5_11] from D.Seps.at_ _ _ _ (fun _ _ => trivial) sg)
    clear c cW cG sg wr12 KG hkeep nA nW nG B11
    have c := bA.cell
    have cW := bW.cell
    have cG := bG.cell
    -- the marks are found
    go_wp2_with fail
    refine (heldFuncType_w Rf _ 1 _ _ (by rfl) (by omega) HC.out MG.out).mono ?_
    rintro e w13 ⟨m13, hm13, rfl, hb13⟩
    obtain rfl : m13 = m12 := by have := HM.out; omega
    clear hm13
    have hm2 : ¬ ((m13 : Int) < 0) := by omega
    have B13 := B12.trans (hb13.mono B12.size)
    replace bA := bA.call hb13
    replace bW := bW.call hb13
    replace bG := bG.call hb13
    replace H0 := Lib.hid (H0.out.below hb13)
    replace MG := Lib.hid (MG.out.below hb13)
    clear c cW cG hb13 B12
    have c := bA.cell
    have cW := bW.cell
    have cG := bG.cell
    -- once more
    go_wp2_with fail
    refine (toFace_w X _ _ (HX.out.below B13) (by omega)).mono ?_
    rintro e w14 ⟨cs14, rfl, hcs14, hb14⟩
    have B14 := B13.trans (hb14.mono B13.size)
    replace bA := bA.call hb14
    replace bW := bW.call hb14
    replace bG := bG.call hb14
    replace H0 := Lib.hid (H0.out.below hb14)
    replace MG := Lib.hid (MG.out.below hb14)
    have Q14 := Lib.hid (show D.Ats w14 anyB X.ds _ from hcs14.weaken (fun _ _ => trivial))
    clear c cW cG hb14 hcs14 B13
    have c := bA.cell
    have cW := bW.cell
    have cG := bG.cell
    go_wp2_with fail
    refine (fnInRet_i X s _ _ (HVW.out.below B14) _ HR.out Q14.out (by omega)).mono ?_
    rintro e w15 ⟨cs15r, rfl, at15, hb15⟩
    obtain ⟨r15_0, r15_1, r15_2, r15_3, r15_4, r15_5, r15_6, r15_7, r15_8, r15_9, r15_10, r15_11, rfl⟩ := Fn.form at15.ats
    have B15 := B14.trans (hb15.mono B14.size)
    replace bA := bA.call hb15
    replace bW := bW.call hb15
    replace bG := bG.call hb15
    have aH : Below w15.heap.size w15 (w15.alloc (.cells #[.slice r15_0 r15_1 r15_2, .int .i64 r15_3, .string r15_4, .slice r15_5 r15_6 r15_7, .slice r15_8 r15_9 r15_10, .bool r15_11] 32)) := (Below.refl _ _).alloc (Nat.le_refl _) _
    have bH : Box (w15.alloc (.cells #[.slice r15_0 r15_1 r15_2, .int .i64 r15_3, .string r15_4, .slice r15_5 r15_6 r15_7, .slice r15_8 r15_9 r15_10, .bool r15_11] 32)) w15.heap.size 32 [.slice r15_0 r15_1 r15_2, .int .i64 r15_3, .string r15_4, .slice r15_5 r15_6 r15_7, .slice r15_8 r15_9 r15_10, .bool r15_11] := Box.new w15 _ _
    replace bA := bA.call aH
    replace bW := bW.call aH
    replace bG := bG.call aH
    replace B15 := B15.trans (aH.mono B15.size)
    replace H0 := Lib.hid (H0.out.below hb15)
    replace MG := Lib.hid (MG.out.below hb15)
    have G15 := Lib.hid at15.ats
    replace H0 := Lib.hid (H0.out.below aH)
    replace MG := Lib.hid (MG.out.below aH)
    replace G15 := Lib.hid (G15.out.below aH)
    have cH := bH.cell
    clear c cW cG hb15 Q14 B14 at15
    have c := bA.cell
    have cW := bW.cell
    have cG := bG.cell
    go_wp2_with fail
    refine (eqFuncType_w Rf Rf _ _ _ G15.out H0.out.any_).mono ?_
    rintro e w16 ⟨rfl, hb16⟩
    have B16 := B15.trans (hb16.mono B15.size)
    replace bA := bA.call hb16
    replace bW := bW.call hb16
    replace bG := bG.call hb16
    replace MG := Lib.hid (MG.out.below hb16)
    have hrefl : Fn.same Rf Rf = true := Fn.same_refl Rf
    rw [hrefl]
    clear c cW cG cH bH hb16 hrefl B15 G15 H0
    have c := bA.cell
    have cW := bW.cell
    have cG := bG.cell
    go_wp2_with fail
    refine (heldFuncType_w Rf _ 1 _ _ (by rfl) (by omega) HC.out MG.out).mono ?_
    rintro e w17 ⟨m17, hm17, rfl, hb17⟩
    obtain rfl : m17 = m13 := by have := HM.out; omega
    clear hm17
    have B17 := B16.trans (hb17.mono B16.size)
    clear c cW cG hb17 B16
    go_wp2
    go_ret
    exact ⟨rfl, B17⟩
  · rw [left_no hle]
    go_wp2
    go_ret
    exact ⟨rfl, B1⟩
end Go.Proofs.YtpfkhojhkjaafaaGreatDoor
