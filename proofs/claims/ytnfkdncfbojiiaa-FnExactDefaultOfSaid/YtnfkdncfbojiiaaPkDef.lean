/- DefaultOf on both sides, as the law wants it. DefaultOf: the law. -/
import Derived.Test.YtnfkdncfbojiiaaDefI
import Derived.Test.YtnfkdncfbojiiaaTyOkS
import Derived.Test.YtnfkdncfbojiiaaTyOkI
import Derived.Test.YtnfkdncfbojiiaaMarkQ
import Derived.Test.YtnfkdncfbojiiaaSepIn
import Derived.Test.YtnfkdncfbojiiaaOType
import Derived.Test.YtnfkdncfbojiiaaGType
import Derived.Test.YtnfkdncfbojiiaaPType
import Derived.Test.YtnfkdncfbojiiaaMtType
import Derived.Test.YtnfkdncfbojiiaaMtValue
import Derived.Test.YtnfkdncfbojiiaaGValue
import Derived.Deep.DeepCutAuto
namespace Go.Proofs.Ytnfkdncfbojiiaa
open Go.RowKit

theorem topC_le (d : D) : D.topC d ≤ D.count d := by cases d <;> simp [D.topC, D.count]
theorem topsC_le_counts (l : List D) : D.topsC l ≤ D.counts l := by
  induction l with
  | nil => simp [D.topsC, D.counts]
  | cons d r ih => have := topC_le d; simp only [D.topsC, D.counts]; omega
theorem sep_nil {α : Type} {f : α → List D} {size : Nat} {w : World} (lo hi : Nat) (h : lo ≤ hi) : SepIn w lo hi (rows f size ([] : List α)) (.slice none 0 0) := ⟨h, [], D.Sep.empty (Nat.zero_le _), List.nodup_nil, fun b hb => by cases hb⟩
theorem tyOk_all {x : Ty} (h : tyOk x = true) : Ty.all shape x = true := by
  unfold tyOk at h
  rw [Bool.and_eq_true, Bool.and_eq_true] at h
  exact h.2.2
theorem tyOk_parts {x : Ty} (h1 : tyOk x = true) : x.parts ≤ 24 := by
  unfold tyOk at h1
  rw [Bool.and_eq_true, Bool.and_eq_true, decide_eq_true_eq, decide_eq_true_eq] at h1
  exact h1.2.1
theorem defRet_s_count (x : Ty) (R : Va) (hr : defOr x = R) : 1 + D.topsC R.ds ≤ 1000000000000 := by
  subst hr
  have h := topsC_le_counts (defOr x).ds
  have : D.counts (defOr x).ds ≤ 72 := by
    unfold defOr
    split
    · rename_i h1
      have h2 := dflt_counts x
      have h3 := tyOk_parts h1
      omega
    · rw [Va.ds_eq]; simp [D.counts, D.count, rows]
  omega
set_option maxHeartbeats 2000000 in
set_option maxRecDepth 20000 in
theorem defRet_s (x : Ty) (R : Va) (cs : List Value) (w : World) (hr : defOr x = R) (hcs : D.Ats w anyB x.ds cs) (_ht : D.totals x.ds ≤ 1048576) : Calls Try.prog 15 #[.agg cs.toArray] w (RetSs R.ds w) := by
  have HX := Lib.hid hcs
  obtain ⟨k, n, A0, m0, c0, A0', m0', c0', rfl⟩ := Ty.form hcs
  clear hcs
  have HR := Lib.hid hr
  clear hr
  go_enter Try.func15, Try.ntmps15
  go_wp2_with fail
  refine (typeOk_s x _ _ (HX.out.below (by repeat (first | exact Below.refl _ _ | refine Below.alloc ?_ (by first | omega | (simp <;> omega)) _)))).mono ?_
  rintro e w1 ⟨rfl, hb1⟩
  obtain ⟨B1, bA, bR⟩ := box2 (cA := [_, _, _, _]) (cB := [.int .i64 0, .int .i64 0, .string ⟨#[]⟩, .slice none 0 0]) hb1
  clear hb1
  have c := bA.cell
  cases h1 : tyOk x
  · have E1 := Lib.hid (show R = .mk 0 0 ⟨#[]⟩ [] by rw [← HR.out, defOr, if_neg (by rw [h1]; decide)])
    have HB := Lib.hid B1
    have kR := bR.cell
    have fR := bR.frozen
    have lR := bR.lt
    clear h1 B1
    go_wp2
    refine bodyPost_ret (v := .agg #[.int .i64 0, .int .i64 0, .string ⟨#[]⟩, .slice none 0 0]) (by simp [results, Try.results15, go_sem, kR]) rfl ⟨[.int .i64 0, .int .i64 0, .string ⟨#[]⟩, .slice none 0 0], rfl, ?_, ?_⟩
    · rw [E1.out, Va.ds_eq]
      have hsz := HB.out.size
      refine SepsIn.weaken (lo := w.heap.size) (hi := w.heap.size) ?_ (Nat.le_refl _) (by simp [World.setCell]; omega)
      exact SepsIn.cons (SepIn.int (by omega)) (SepsIn.cons (SepIn.int (by omega)) (SepsIn.cons (SepIn.str (by decide)) (SepsIn.cons (sep_nil _ _ (by omega)) (SepsIn.nil (Nat.le_refl _)))))
    · have := HB.out
      repeat (first | exact this | with_reducible refine Below.setCell ?_ (by simp) _)
  · have E1 := Lib.hid (show R = x.dflt by rw [← HR.out, defOr, if_pos h1])
    have H2 := Lib.hid (l04Default_s x (tyOk_all h1))
    clear h1
    go_wp2_with fail
    refine (H2.out _ _ (HX.out.below B1)).mono ?_
    rintro e w2 ⟨cs2, rfl, hs2, hb2⟩
    obtain ⟨f0, f1, f2, f3, f4, f5, rfl⟩ := Va.form hs2.ats
    have bR2 := bR.call hb2
    have HB := Lib.hid (B1.trans (hb2.mono B1.size))
    have HS := Lib.hid (hs2.weaken (lo' := w1.heap.size) (Nat.le_refl _) (Nat.le_refl _))
    have hs1 := B1.size
    have l1 := bR.lt
    have kR := bR2.cell
    have fR := bR2.frozen
    have lR := bR2.lt
    clear c hs2 hb2 B1
    go_wp2
    refine bodyPost_ret (v := .agg #[.int .i64 f0, .int .i64 f1, .string f2, .slice f3 f4 f5]) (by simp [results, Try.results15, go_sem, kR]) rfl ⟨[.int .i64 f0, .int .i64 f1, .string f2, .slice f3 f4 f5], rfl, ?_, ?_⟩
    · rw [E1.out]
      refine SepsIn.weaken (lo := w1.heap.size) (hi := w2.heap.size) ?_ (by omega) (by simp [World.setCell])
      have := HS.out
      repeat (first | exact this | with_reducible refine SepsIn.set ?_ (.inl l1) _)
    · have := HB.out
      repeat (first | exact this | with_reducible refine Below.setCell ?_ (by simp) _)
set_option maxHeartbeats 2000000 in
set_option maxRecDepth 20000 in
theorem defRet_i (x : Ty) (R : Va) (cs : List Value) (w : World) (hr : defOr x = R) (hcs : D.Ats w anyB x.ds cs) (ht : D.totals x.ds ≤ 1048576) : Calls Try.prog 16 #[.agg cs.toArray] w (RetSs R.ds w) := by
  have HX := Lib.hid hcs
  obtain ⟨k, n, A0, m0, c0, A0', m0', c0', rfl⟩ := Ty.form hcs
  clear hcs
  have HR := Lib.hid hr
  clear hr
  go_enter Try.func16, Try.ntmps16
  go_wp2_with fail
  refine (typeOk_i x _ _ (HX.out.below (by repeat (first | exact Below.refl _ _ | refine Below.alloc ?_ (by first | omega | (simp <;> omega)) _))) (by have := Ty.parts_total x; omega)).mono ?_
  rintro e w1 ⟨rfl, hb1⟩
  obtain ⟨B1, bA, bR⟩ := box2 (cA := [_, _, _, _]) (cB := [.int .i64 0, .int .i64 0, .string ⟨#[]⟩, .slice none 0 0]) hb1
  clear hb1
  have c := bA.cell
  cases h1 : tyOk x
  · have E1 := Lib.hid (show R = .mk 0 0 ⟨#[]⟩ [] by rw [← HR.out, defOr, if_neg (by rw [h1]; decide)])
    have HB := Lib.hid B1
    have kR := bR.cell
    have fR := bR.frozen
    have lR := bR.lt
    clear h1 B1
    go_wp2
    refine bodyPost_ret (v := .agg #[.int .i64 0, .int .i64 0, .string ⟨#[]⟩, .slice none 0 0]) (by simp [results, Try.results16, go_sem, kR]) rfl ⟨[.int .i64 0, .int .i64 0, .string ⟨#[]⟩, .slice none 0 0], rfl, ?_, ?_⟩
    · rw [E1.out, Va.ds_eq]
      have hsz := HB.out.size
      refine SepsIn.weaken (lo := w.heap.size) (hi := w.heap.size) ?_ (Nat.le_refl _) (by simp [World.setCell]; omega)
      exact SepsIn.cons (SepIn.int (by omega)) (SepsIn.cons (SepIn.int (by omega)) (SepsIn.cons (SepIn.str (by decide)) (SepsIn.cons (sep_nil _ _ (by omega)) (SepsIn.nil (Nat.le_refl _)))))
    · have := HB.out
      repeat (first | exact this | with_reducible refine Below.setCell ?_ (by simp) _)
  · have E1 := Lib.hid (show R = x.dflt by rw [← HR.out, defOr, if_pos h1])
    have H2 := Lib.hid (defaultOf_i x (tyOk_all h1))
    clear h1
    go_wp2_with fail
    refine (H2.out _ _ (HX.out.below B1)).mono ?_
    rintro e w2 ⟨cs2, rfl, hs2, hb2⟩
    obtain ⟨f0, f1, f2, f3, f4, f5, rfl⟩ := Va.form hs2.ats
    have bR2 := bR.call hb2
    have HB := Lib.hid (B1.trans (hb2.mono B1.size))
    have HS := Lib.hid (hs2.weaken (lo' := w1.heap.size) (Nat.le_refl _) (Nat.le_refl _))
    have hs1 := B1.size
    have l1 := bR.lt
    have kR := bR2.cell
    have fR := bR2.frozen
    have lR := bR2.lt
    clear c hs2 hb2 B1
    go_wp2
    refine bodyPost_ret (v := .agg #[.int .i64 f0, .int .i64 f1, .string f2, .slice f3 f4 f5]) (by simp [results, Try.results16, go_sem, kR]) rfl ⟨[.int .i64 f0, .int .i64 f1, .string f2, .slice f3 f4 f5], rfl, ?_, ?_⟩
    · rw [E1.out]
      refine SepsIn.weaken (lo := w1.heap.size) (hi := w2.heap.size) ?_ (by omega) (by simp [World.setCell])
      have := HS.out
      repeat (first | exact this | with_reducible refine SepsIn.set ?_ (.inl l1) _)
    · have := HB.out
      repeat (first | exact this | with_reducible refine Below.setCell ?_ (by simp) _)
end Go.Proofs.Ytnfkdncfbojiiaa
namespace Go.Proofs.Ytnfkdncfbojiiaa
open Go.RowKit Go.ChangeShapes Go.WideShapes

theorem toType_cDefaultOf (x : Ty) (cs : List Value) (w : World) (h : D.Ats w anyB x.ds cs) (ht : D.totals x.ds ≤ 1048576) : Calls Try.prog 8 #[.agg cs.toArray] w (RetDs x.ds w) := toType_w x cs w h ht
theorem eqType_cDefaultOf (x y : Ty) (cs cs' : List Value) (w : World) (h : D.Ats w anyB x.ds cs) (h' : D.Ats w anyB y.ds cs') :
    Calls Try.prog 11 #[.agg cs.toArray, .agg cs'.toArray] w fun e w' => e = .returned (.bool (Ty.same x y)) ∧ Below w.heap.size w w' := eqType_w x y cs cs' w h h'

set_option maxHeartbeats 4000000 in
set_option maxRecDepth 20000 in
theorem law_FnExactDefaultOf {H : Type} {enc : TypeId × Value → H} {b0 : Nat} {w : World} (v : Value) (d : DataW H) (p : List MemPlace) (hv : Value.okWide Try.prog w .any b0 25 v)
    (h : DataW.Trod enc Try.prog w 0 (fun _ => true) true 25 v d p) :
    Calls Try.prog 4 #[v] w fun e w' => e = .returned (.bool true) ∧ Below w.heap.size w w' := by
  obtain ⟨cs, X, rfl, hx⟩ := Type_arg hv h
  clear hv h
  obtain ⟨k0, k1, k2, k3, k4, k5, k6, k7, rfl⟩ := Ty.form hx
  have HX := Lib.hid hx
  clear hx
  go_enter Try.func4, Try.ntmps4
  go_wp2_with fail
  refine (szType_w X _ _ _ (HX.out.below (by repeat (first | exact Below.refl _ _ | refine Below.alloc ?_ (by first | omega | (simp <;> omega)) _))) (by omega) (by omega)).mono ?_
  rintro e w1 ⟨rfl, hb1⟩
  obtain ⟨B1, bA⟩ := box1 (cA := [_, _, _, _]) hb1
  clear hb1
  by_cases hle : (D.totals X.ds : Int) ≤ 1048576
  · rw [left_yes hle]
    have hg : ¬ (1048576 - (D.totals X.ds : Int) < 0) := by omega
    have c := bA.cell
    go_wp2_with fail
    refine (toType_w X _ _ (HX.out.below B1) (by omega)).mono ?_
    rintro e w2 ⟨cs2, rfl, hcs2, hb2⟩
    obtain ⟨z0, z1, z2, z3, z4, z5, z6, z7, rfl⟩ := Ty.form hcs2
    have B2 := B1.trans (hb2.mono B1.size)
    replace bA := bA.call hb2
    have q2 := Lib.hid (show D.Ats w2 anyB X.ds _ from hcs2.weaken (fun _ _ => trivial))
    clear c hb2 hcs2
    have c := bA.cell
    obtain ⟨R, hR⟩ : ∃ R, defOr X = R := ⟨_, rfl⟩
    have HR := Lib.hid hR
    have HC := Lib.hid (defRet_s_count X R hR)
    clear hR
    go_wp2_with fail
    refine (defRet_s X R _ _ HR.out q2.out (by omega)).mono ?_
    rintro e w3 ⟨cs3r, rfl, at3, hb3⟩
    obtain ⟨r3_0, r3_1, r3_2, r3_3A, r3_3m, r3_3c, rfl⟩ := Va.form at3.ats
    have B3 := B2.trans (hb3.mono B2.size)
    replace bA := bA.call hb3
    have sB3 : w.heap.size ≤ w3.heap.size := B3.size
    have lB3 : w.heap.size < w3.heap.size := bA.lt
    have aW : Below w3.heap.size w3 (w3.alloc (.cells #[.int .i64 r3_0, .int .i64 r3_1, .string r3_2, .slice r3_3A r3_3m r3_3c] 42)) := (Below.refl _ _).alloc (Nat.le_refl _) _
    have bW : Box (w3.alloc (.cells #[.int .i64 r3_0, .int .i64 r3_1, .string r3_2, .slice r3_3A r3_3m r3_3c] 42)) w3.heap.size 42 [.int .i64 r3_0, .int .i64 r3_1, .string r3_2, .slice r3_3A r3_3m r3_3c] := Box.new w3 _ _
    replace bA := bA.call aW
    replace B3 := B3.trans (aW.mono B3.size)
    have lA3 := bA.lt
    have H0 := Lib.hid (show D.Ats (w3.alloc (.cells #[.int .i64 r3_0, .int .i64 r3_1, .string r3_2, .slice r3_3A r3_3m r3_3c] 42)) (fun b => b < w3.heap.size) R.ds [.int .i64 r3_0, .int .i64 r3_1, .string r3_2, .slice r3_3A r3_3m r3_3c] from at3.lt_.below aW)
    clear c hb3 q2 at3
    have c := bA.cell
    have cW := bW.cell
    go_wp2_with fail
    refine (toType_p X _ _ (HX.out.below B3) (by omega)).mono ?_
    rintro e w4 ⟨cs4, rfl, hcs4, hb4⟩
    obtain ⟨y0, y1, y2, y3, y4, y5, y6, y7, rfl⟩ := Ty.form hcs4.ats
    have B4 := B3.trans (hb4.mono B3.size)
    have s34 : w3.heap.size + 1 ≤ w4.heap.size := by have := hb4.size; simpa using this
    replace bA := bA.call hb4
    replace bW := bW.call hb4
    replace H0 := Lib.hid (H0.out.below hb4)
    have Q4 := Lib.hid (hcs4.weaken (lo' := w3.heap.size + 1) (hi' := w4.heap.size) (by simp) (Nat.le_refl _))
    clear c cW hb4 hcs4
    have c := bA.cell
    have cW := bW.cell
    have lA := bA.lt
    go_wp2_with fail
    refine (defRet_i X R _ _ HR.out (Q4.out.ats.below ((Below.refl _ _).alloc (Nat.le_refl _) _)) (by omega)).mono ?_
    rintro e w5 ⟨cs5r, rfl, at5, hb5⟩
    obtain ⟨r5_0, r5_1, r5_2, r5_3A, r5_3m, r5_3c, rfl⟩ := Va.form at5.ats
    have bC : Box w5 w4.heap.size 33 [.int .i64 y0, .string y1, .slice y2 y3 y4, .slice y5 y6 y7] := (Box.new w4 _ _).call hb5
    have B5 := (B4.alloc B4.size _).trans (hb5.mono (Nat.le_trans B4.size (by simp)))
    have s45 : w4.heap.size + 1 ≤ w5.heap.size := by have := hb5.size; simpa using this
    replace bA := (bA.alloc _).call hb5
    replace bW := (bW.alloc _).call hb5
    replace H0 := Lib.hid ((H0.out.below ((Below.refl _ _).alloc (Nat.le_refl _) _)).below hb5)
    have Q5 := Lib.hid ((Q4.out.below ((Below.refl _ _).alloc (Nat.le_refl _) _) (Nat.le_refl _)).below hb5 (by simp))
    have G5 := Lib.hid (at5.weaken (lo' := w4.heap.size + 1) (hi' := w5.heap.size) (by simp) (Nat.le_refl _))
    have aG : Below w5.heap.size w5 (w5.alloc (.cells #[.int .i64 r5_0, .int .i64 r5_1, .string r5_2, .slice r5_3A r5_3m r5_3c] 42)) := (Below.refl _ _).alloc (Nat.le_refl _) _
    have bG : Box (w5.alloc (.cells #[.int .i64 r5_0, .int .i64 r5_1, .string r5_2, .slice r5_3A r5_3m r5_3c] 42)) w5.heap.size 42 [.int .i64 r5_0, .int .i64 r5_1, .string r5_2, .slice r5_3A r5_3m r5_3c] := Box.new w5 _ _
    replace bA := bA.call aG
    replace bW := bW.call aG
    replace bC := bC.call aG
    replace B5 := B5.trans (aG.mono B5.size)
    replace H0 := Lib.hid (H0.out.below aG)
    replace Q5 := Lib.hid (Q5.out.below aG (by omega))
    replace G5 := Lib.hid (G5.out.below aG (Nat.le_refl _))
    clear c cW hb5 Q4 lA B4 at5
    have c := bA.cell
    have cW := bW.cell
    have cG := bG.cell
    have f := bC.cell
    go_wp2_with fail
    refine (eqValue_w R R _ _ _ G5.out.ats H0.out.any_).mono ?_
    rintro e w6 ⟨rfl, hb6⟩
    have B6 := B5.trans (hb6.mono B5.size)
    have s56 : w5.heap.size + 1 ≤ w6.heap.size := by have := hb6.size; simpa using this
    replace bA := bA.call hb6
    replace bW := bW.call hb6
    replace bG := bG.call hb6
    replace bC := bC.call hb6
    replace H0 := Lib.hid (H0.out.below hb6)
    replace Q5 := Lib.hid (Q5.out.below hb6 (by simp; omega))
    replace G5 := Lib.hid (G5.out.below hb6 (by simp))
    have hrefl : Va.same R R = true := Va.same_refl R
    rw [hrefl]
    clear c cW cG f hb6 hrefl B5
    have c := bA.cell
    have cW := bW.cell
    have cG := bG.cell
    have f := bC.cell
    have q5d : D.Ats w6.drew anyB X.ds _ := Q5.out.ats.drew
    go_upto_region 10 with fail
    go_cut [31] (fun s wx => s = .bool false ∧ Below w6.heap.size w6 wx)
    case first =>
      go_region_with (first
        | (go_at_call 8; ((with_reducible refine (toType_cDefaultOf X _ _ (HX.out.below B6.drew) (by omega)).mono ?_); rintro e w8 ⟨cs8, rfl, hcs8, hb8⟩; have q8 : D.Ats w8 anyB X.ds cs8 := hcs8.weaken (fun _ _ => trivial); have f8 := (Box.call (w := w6.drew) bC hb8).cell))
        | (go_at_call 11; ((with_reducible refine (eqType_cDefaultOf X X _ _ _ (q5d.below hb8) q8).mono ?_); rintro e w9 ⟨rfl, hb9⟩)))
      all_goals
        have fin := Lib.hid (show Below w6.heap.size w6 w9 from ((Below.refl _ w6).drew.trans hb8).trans (hb9.mono hb8.size))
        have hrf := Ty.same_refl X
        go_wp2_with fail
        go_meet
        exact ⟨by rw [hrf]; rfl, fin.out⟩
    case rest =>
    obtain ⟨rfl, hb9⟩ := hcut
    obtain ⟨w9, hw9⟩ : ∃ w9, w9 = wc := ⟨_, rfl⟩
    rw [← hw9] at hb9 ⊢
    clear hw9 q5d
    have B9 := B6.trans (hb9.mono B6.size)
    have s69 := hb9.size
    replace bA := bA.call hb9
    replace bW := bW.call hb9
    replace bG := bG.call hb9
    replace bC := bC.call hb9
    replace H0 := Lib.hid (H0.out.below hb9)
    replace Q5 := Lib.hid (Q5.out.below hb9 (by omega))
    replace G5 := Lib.hid (G5.out.below hb9 (by omega))
    clear c cW cG f hb9 B6
    have c := bA.cell
    have cW := bW.cell
    have cG := bG.cell
    have f := bC.cell
    have lA := bA.lt
    obtain ⟨-, lX, hX1, hX2, hX3⟩ := Q5.out
    obtain ⟨-, lG, hG1, hG2, hG3⟩ := G5.out
    have KX := Lib.hid (And.intro hX1 (And.intro hX2 hX3))
    have KG := Lib.hid (And.intro hG1 (And.intro hG2 hG3))
    clear hX1 hX2 hX3 hG1 hG2 hG3 Q5 G5
    have hcX : 1 + D.topsC X.ds ≤ 1000000000000 := by have := Ty.topsC_le X; omega
    -- the argument is marked
    go_wp2_with fail
    refine (markType_w X _ lX 1 _ _ (by rfl) (by omega) hcX KX.out.1 KX.out.2.1).mono ?_
    rintro e w10 ⟨m10, hm10, rfl, sx, wr10⟩
    have hm0 : ¬ ((m10 : Int) < 0) := by omega
    have B10 := B9.trans (wr10.below B9.size (fun b hb => by have := KX.out.2.2 b hb; have := sB3; omega))
    have s90 := wr10.size
    have nA : w.heap.size ∉ lX := fun hm => by have := KX.out.2.2 _ hm; have := sB3; have := lB3; omega
    have nW : w3.heap.size ∉ lX := fun hm => by have := KX.out.2.2 _ hm; omega
    have nG : w5.heap.size ∉ lX := fun hm => by have := KX.out.2.2 _ hm; omega
    have nC : w4.heap.size ∉ lX := fun hm => by have := KX.out.2.2 _ hm; omega
    replace bA : Box w10 w.heap.size _ _ := (wr10.block _ bA.lt nA).trans bA
    replace bW : Box w10 w3.heap.size _ _ := (wr10.block _ bW.lt nW).trans bW
    replace bG : Box w10 w5.heap.size _ _ := (wr10.block _ bG.lt nG).trans bG
    replace bC : Box w10 w4.heap.size _ _ := (wr10.block _ bC.lt nC).trans bC
    have hkeep : ∀ b, b < w9.heap.size → b < w3.heap.size → w10.heap[b]? = w9.heap[b]? ∧ b < w3.heap.size ∧ b < w10.heap.size := fun b h1 h2 =>
      ⟨wr10.block b h1 (fun hm => by have := KX.out.2.2 _ hm; omega), h2, by omega⟩
    replace H0 := Lib.hid (H0.out.keep (S' := fun b => b < w3.heap.size) hkeep _ _)
    have KG1 := Lib.hid (And.intro (D.Seps.wr KG.out.1 wr10 (fun b hb hm => by have := KX.out.2.2 _ hm; have := KG.out.2.2 _ hb; omega)) KG.out.2)
    clear c cW cG f hm10 sx wr10 KG hkeep nA nC nW nG B9
    have KG := KG1
    clear KG1
    have c := bA.cell
    have cW := bW.cell
    have cG := bG.cell
    have f := bC.cell
    -- the result reads as before
    go_wp2_with fail
    refine (eqValue_w R R _ _ _ (D.Seps.at_ _ _ _ (fun _ _ => trivial) KG.out.1) H0.out.any_).mono ?_
    rintro e w11 ⟨rfl, hb11⟩
    have B11 := B10.trans (hb11.mono B10.size)
    replace bA := bA.call hb11
    replace bW := bW.call hb11
    replace bG := bG.call hb11
    replace H0 := Lib.hid (H0.out.below hb11)
    have KG1 := Lib.hid (And.intro (D.Seps.below KG.out.1 hb11) KG.out.2)
    have s101 := hb11.size
    have hrefl : Va.same R R = true := Va.same_refl R
    rw [hrefl]
    clear c cW cG f hb11 hrefl B10 KG bC
    have KG := KG1
    clear KG1
    have c := bA.cell
    have cW := bW.cell
    have cG := bG.cell
    -- the result is marked
    go_wp2_with fail
    refine (markValue_w R _ lG 1 _ _ (by rfl) (by omega) HC.out KG.out.1 KG.out.2.1).mono ?_
    rintro e w12 ⟨m12, hm12, rfl, sg, wr12⟩
    have HM := Lib.hid hm12
    clear hm12
    have B12 := B11.trans (wr12.below B11.size (fun b hb => by have := KG.out.2.2 b hb; have := sB3; omega))
    have s112 := wr12.size
    have nA : w.heap.size ∉ lG := fun hm => by have := KG.out.2.2 _ hm; have := sB3; have := lB3; omega
    have nW : w3.heap.size ∉ lG := fun hm => by have := KG.out.2.2 _ hm; omega
    have nG : w5.heap.size ∉ lG := fun hm => by have := KG.out.2.2 _ hm; omega
    replace bA : Box w12 w.heap.size _ _ := (wr12.block _ bA.lt nA).trans bA
    replace bW : Box w12 w3.heap.size _ _ := (wr12.block _ bW.lt nW).trans bW
    replace bG : Box w12 w5.heap.size _ _ := (wr12.block _ bG.lt nG).trans bG
    have hkeep : ∀ b, b < w11.heap.size → b < w3.heap.size → w12.heap[b]? = w11.heap[b]? ∧ b < w3.heap.size ∧ b < w12.heap.size := fun b h1 h2 =>
      ⟨wr12.block b h1 (fun hm => by have := KG.out.2.2 _ hm; omega), h2, by omega⟩
    replace H0 := Lib.hid (H0.out.keep (S' := fun b => b < w3.heap.size) hkeep _ _)
    have MG := Lib.hid (show D.Ats w12 anyB (D.topsM 1 R.ds) [.int .i64 r5_0, .int .i64 r5_1, .string r5_2, .slice r5_3A r5_3m r5_3c] from D.Seps.at_ _ _ _ (fun _ _ => trivial) sg)
    clear c cW cG sg wr12 KG hkeep nA nW nG B11
    have c := bA.cell
    have cW := bW.cell
    have cG := bG.cell
    -- the marks are found
    go_wp2_with fail
    refine (heldValue_w R _ 1 _ _ (by rfl) (by omega) HC.out MG.out).mono ?_
    rintro e w13 ⟨m13, hm13, rfl, hb13⟩
    obtain rfl : m13 = m12 := by have := HM.out; omega
    clear hm13
    have hm2 : ¬ ((m13 : Int) < 0) := by omega
    have B13 := B12.trans (hb13.mono B12.size)
    replace bA := bA.call hb13
    replace bW := bW.call hb13
    replace bG := bG.call hb13
    replace H0 := Lib.hid (H0.out.below hb13)
    replace MG := Lib.hid (MG.out.below hb13)
    clear c cW cG hb13 B12
    have c := bA.cell
    have cW := bW.cell
    have cG := bG.cell
    -- once more
    go_wp2_with fail
    refine (toType_w X _ _ (HX.out.below B13) (by omega)).mono ?_
    rintro e w14 ⟨cs14, rfl, hcs14, hb14⟩
    have B14 := B13.trans (hb14.mono B13.size)
    replace bA := bA.call hb14
    replace bW := bW.call hb14
    replace bG := bG.call hb14
    replace H0 := Lib.hid (H0.out.below hb14)
    replace MG := Lib.hid (MG.out.below hb14)
    have Q14 := Lib.hid (show D.Ats w14 anyB X.ds _ from hcs14.weaken (fun _ _ => trivial))
    clear c cW cG hb14 hcs14 B13
    have c := bA.cell
    have cW := bW.cell
    have cG := bG.cell
    go_wp2_with fail
    refine (defRet_i X R _ _ HR.out Q14.out (by omega)).mono ?_
    rintro e w15 ⟨cs15r, rfl, at15, hb15⟩
    obtain ⟨r15_0, r15_1, r15_2, r15_3A, r15_3m, r15_3c, rfl⟩ := Va.form at15.ats
    have B15 := B14.trans (hb15.mono B14.size)
    replace bA := bA.call hb15
    replace bW := bW.call hb15
    replace bG := bG.call hb15
    have aH : Below w15.heap.size w15 (w15.alloc (.cells #[.int .i64 r15_0, .int .i64 r15_1, .string r15_2, .slice r15_3A r15_3m r15_3c] 42)) := (Below.refl _ _).alloc (Nat.le_refl _) _
    have bH : Box (w15.alloc (.cells #[.int .i64 r15_0, .int .i64 r15_1, .string r15_2, .slice r15_3A r15_3m r15_3c] 42)) w15.heap.size 42 [.int .i64 r15_0, .int .i64 r15_1, .string r15_2, .slice r15_3A r15_3m r15_3c] := Box.new w15 _ _
    replace bA := bA.call aH
    replace bW := bW.call aH
    replace bG := bG.call aH
    replace B15 := B15.trans (aH.mono B15.size)
    replace H0 := Lib.hid (H0.out.below hb15)
    replace MG := Lib.hid (MG.out.below hb15)
    have G15 := Lib.hid at15.ats
    replace H0 := Lib.hid (H0.out.below aH)
    replace MG := Lib.hid (MG.out.below aH)
    replace G15 := Lib.hid (G15.out.below aH)
    have cH := bH.cell
    clear c cW cG hb15 Q14 B14 at15
    have c := bA.cell
    have cW := bW.cell
    have cG := bG.cell
    go_wp2_with fail
    refine (eqValue_w R R _ _ _ G15.out H0.out.any_).mono ?_
    rintro e w16 ⟨rfl, hb16⟩
    have B16 := B15.trans (hb16.mono B15.size)
    replace bA := bA.call hb16
    replace bW := bW.call hb16
    replace bG := bG.call hb16
    replace MG := Lib.hid (MG.out.below hb16)
    have hrefl : Va.same R R = true := Va.same_refl R
    rw [hrefl]
    clear c cW cG cH bH hb16 hrefl B15 G15 H0
    have c := bA.cell
    have cW := bW.cell
    have cG := bG.cell
    go_wp2_with fail
    refine (heldValue_w R _ 1 _ _ (by rfl) (by omega) HC.out MG.out).mono ?_
    rintro e w17 ⟨m17, hm17, rfl, hb17⟩
    obtain rfl : m17 = m13 := by have := HM.out; omega
    clear hm17
    have B17 := B16.trans (hb17.mono B16.size)
    clear c cW cG hb17 B16
    go_wp2
    go_ret
    exact ⟨rfl, B17⟩
  · rw [left_no hle]
    go_wp2
    go_ret
    exact ⟨rfl, B1⟩
end Go.Proofs.Ytnfkdncfbojiiaa
