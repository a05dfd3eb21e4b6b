/- Meet: the law. -/
import Derived.Test.YtokppmhihghapaaMeet
import Derived.Lib.SmallJoins
namespace Go.Proofs.Ytokppmhihghapaa
open Go.RowKit Go.ChangeShapes Go.WideShapes

theorem keep4 {w0 W : World} {h : Nat} {a b c d : Value} (zA : h < w0.heap.size) (zB : h + 1 < w0.heap.size) (e1 : w0.cell? ⟨h, 0, none⟩ = some a) (e2 : w0.cell? ⟨h, 1, none⟩ = some b) (e3 : w0.cell? ⟨h + 1, 0, none⟩ = some c) (e4 : w0.cell? ⟨h + 1, 1, none⟩ = some d)
    (G : Below w0.heap.size w0 W) : W.cell? ⟨h, 0, none⟩ = some a ∧ W.cell? ⟨h, 1, none⟩ = some b ∧ W.cell? ⟨h + 1, 0, none⟩ = some c ∧ W.cell? ⟨h + 1, 1, none⟩ = some d :=
  ⟨(G.cell (p := ⟨h, 0, none⟩) zA).trans e1, (G.cell (p := ⟨h, 1, none⟩) zA).trans e2, (G.cell (p := ⟨h + 1, 0, none⟩) zB).trans e3, (G.cell (p := ⟨h + 1, 1, none⟩) zB).trans e4⟩
theorem metEnd {w0 w5 : World} {g : Nat} {t : TypeId} {lo hi : Value} (G : Below w0.heap.size w0 w5) (bG : Box w5 g t [.int .i64 0, .int .i64 0]) (hg : w0.heap.size ≤ g) :
    Below w0.heap.size w0 ((w5.setCell ⟨g, 0, none⟩ lo).setCell ⟨g, 1, none⟩ hi) ∧ w0.heap.size ≤ g ∧ g < ((w5.setCell ⟨g, 0, none⟩ lo).setCell ⟨g, 1, none⟩ hi).heap.size ∧
      ((w5.setCell ⟨g, 0, none⟩ lo).setCell ⟨g, 1, none⟩ hi).cell? ⟨g, 0, none⟩ = some lo ∧ ((w5.setCell ⟨g, 0, none⟩ lo).setCell ⟨g, 1, none⟩ hi).cell? ⟨g, 1, none⟩ = some hi :=
  ⟨(G.setCell hg _).setCell hg _, hg, ((bG.set 0 lo).set 1 hi).lt, ((bG.set 0 lo).set 1 hi).cell 0, ((bG.set 0 lo).set 1 hi).cell 1⟩
theorem metEnd2 {w0 w5 : World} {t : TypeId} {lo hi : Value} (G : Below w0.heap.size w0 w5) :
    Below w0.heap.size w0 (w5.alloc (.cells #[lo, hi] t)) ∧ w0.heap.size ≤ w5.heap.size ∧ w5.heap.size < (w5.alloc (.cells #[lo, hi] t)).heap.size ∧
      (w5.alloc (.cells #[lo, hi] t)).cell? ⟨w5.heap.size, 0, none⟩ = some lo ∧ (w5.alloc (.cells #[lo, hi] t)).cell? ⟨w5.heap.size, 1, none⟩ = some hi :=
  ⟨G.alloc G.size _, G.size, by simp, (Box.new w5 t [lo, hi]).cell 0, (Box.new w5 t [lo, hi]).cell 1⟩
set_option maxHeartbeats 4000000 in
set_option maxRecDepth 20000 in
theorem law_FnExactMeet {H : Type} {enc : TypeId × Value → H} {b0 b1 : Nat} {w : World} (v : Value) (d : DataW H) (p : List MemPlace) (hv : Value.okWide Try.prog w .any b0 33 v)
    (h : DataW.Trod enc Try.prog w 0 (fun _ => true) true 33 v d p) (v' : Value) (d' : DataW H) (p' : List MemPlace) (hv' : Value.okWide Try.prog w .any b1 33 v')
    (h' : DataW.Trod enc Try.prog w 0 (fun _ => true) true 33 v' d' p') :
    Calls Try.prog 6 #[v, v'] w fun e w' => e = .returned (.bool true) ∧ Below w.heap.size w w' := by
  obtain ⟨c0, c1, y0, y1, m, rfl, rfl, rfl, hy0, hy1⟩ := Go.Joins.open_agg2 Try.underlying33 (by kernel_rfl) (by kernel_rfl : Try.prog.cellsOf 33 = 2) hv h
  obtain ⟨a, e0, rfl, wa⟩ := DataW.trod_int Try.underlying2 hy0
  obtain ⟨b, e1, rfl, wb⟩ := DataW.trod_int Try.underlying2 hy1
  simp at e0 e1
  subst e0 e1
  obtain ⟨c2, c3, y2, y3, m2, rfl, rfl, rfl, hy2, hy3⟩ := Go.Joins.open_agg2 Try.underlying33 (by kernel_rfl) (by kernel_rfl : Try.prog.cellsOf 33 = 2) hv' h'
  obtain ⟨c, e2, rfl, wc⟩ := DataW.trod_int Try.underlying2 hy2
  obtain ⟨d, e3, rfl, wd⟩ := DataW.trod_int Try.underlying2 hy3
  simp at e2 e3
  subst e2 e3
  obtain ⟨ha1, ha2⟩ := bounds_i64 wa
  obtain ⟨hc1, hc2⟩ := bounds_i64 wc
  clear hv h hv' h' hy0 hy1 hy2 hy3 wa wb wc wd
  go_enter Try.func6, Try.ntmps6
  go_upto_region 1 with fail
  obtain ⟨w0, hw0⟩ : ∃ w0, w0 = (w.alloc (.cells #[.int .i64 a, .int .i64 b] 33)).alloc (.cells #[.int .i64 c, .int .i64 d] 33) := ⟨_, rfl⟩
  rw [← hw0]
  have bA : Box w0 w.heap.size 33 [.int .i64 a, .int .i64 b] := by rw [hw0]; exact (Box.new w _ _).alloc _
  have bB : Box w0 (w.heap.size + 1) 33 [.int .i64 c, .int .i64 d] := by rw [hw0]; have := Box.new (w.alloc (.cells #[.int .i64 a, .int .i64 b] 33)) 33 [.int .i64 c, .int .i64 d]; simpa using this
  have B0 : Below w.heap.size w w0 := by rw [hw0]; exact ((Below.refl _ _).alloc (Nat.le_refl _) _).alloc (by simp) _
  clear hw0
  have e1 : w0.cell? ⟨w.heap.size, 0, none⟩ = some (.int .i64 a) := bA.cell 0
  have e2 : w0.cell? ⟨w.heap.size, 1, none⟩ = some (.int .i64 b) := bA.cell 1
  have e3 : w0.cell? ⟨w.heap.size + 1, 0, none⟩ = some (.int .i64 c) := bB.cell 0
  have e4 : w0.cell? ⟨w.heap.size + 1, 1, none⟩ = some (.int .i64 d) := bB.cell 1
  have zA := bA.lt
  have zB := bB.lt
  go_cut [5, 6] (fun s o wx => ∃ g, s = .pointer (some ⟨g, 0, none⟩) ∧ o = .bool (meetOk a b c d) ∧ Below w0.heap.size w0 wx ∧ w0.heap.size ≤ g ∧ g < wx.heap.size ∧ wx.cell? ⟨g, 0, none⟩ = some (.int .i64 (meetLo a b c d)) ∧ wx.cell? ⟨g, 1, none⟩ = some (.int .i64 (meetHi a b c d)))
  case first =>
    have K0 : Below w0.heap.size w0 w0.drew := (Below.refl _ w0).drew
    go_region_held3 (fun w' => w'.cell? ⟨w.heap.size, 0, none⟩ = some (.int .i64 a) ∧ w'.cell? ⟨w.heap.size, 1, none⟩ = some (.int .i64 b) ∧ w'.cell? ⟨w.heap.size + 1, 0, none⟩ = some (.int .i64 c) ∧ w'.cell? ⟨w.heap.size + 1, 1, none⟩ = some (.int .i64 d))
      (first | exact keep4 zA zB e1 e2 e3 e4 ((G5.setCell (by first | exact Nat.le_refl _ | exact G3.size | exact G4.size | exact G5.size | (simp; done)) _).setCell (by first | exact Nat.le_refl _ | exact G3.size | exact G4.size | exact G5.size | (simp; done)) _) | exact keep4 zA zB e1 e2 e3 e4 (((G5.alloc G5.size _).setCell (by first | exact Nat.le_refl _ | exact G3.size | exact G4.size | exact G5.size | (simp; done)) _).setCell (by first | exact Nat.le_refl _ | exact G3.size | exact G4.size | exact G5.size | (simp; done)) _) | exact ⟨r1, r2, r3, r4⟩ | exact ⟨p1, p2, p3, p4⟩ | exact ⟨q1, q2, q3, q4⟩ | (go_keep; done) | (trace_state; fail))
      (first
        | (go_at_call 23; ((with_reducible refine (toRange_w a b _).mono ?_); rintro e w3 ⟨rfl, hb3⟩; have G3 : Below w0.heap.size w0 w3 := (by first | exact K0.trans (hb3.mono K0.size) | exact (K0.alloc K0.size _).trans (hb3.mono (by have := K0.size; first | exact this | (simp; done) | (simp; omega) | exact Nat.le_trans this (by simp)))); have q1 := (G3.cell (p := ⟨w.heap.size, 0, none⟩) zA).trans e1; have q2 := (G3.cell (p := ⟨w.heap.size, 1, none⟩) zA).trans e2; have q3 := (G3.cell (p := ⟨w.heap.size + 1, 0, none⟩) zB).trans e3; have q4 := (G3.cell (p := ⟨w.heap.size + 1, 1, none⟩) zB).trans e4; (first | (have bG : Box w3 w0.heap.size 34 [.int .i64 0, .int .i64 0] := (Box.new w0.drew 34 [.int .i64 0, .int .i64 0]).call hb3) | skip)))
        | (go_at_call 23; ((with_reducible refine (toRange_w c d _).mono ?_); rintro e w4 ⟨rfl, hb4⟩; have G4 : Below w0.heap.size w0 w4 := (by first | exact G3.trans (hb4.mono G3.size) | exact (G3.alloc G3.size _).trans (hb4.mono (by have := G3.size; first | exact this | (simp; done) | (simp; omega) | exact Nat.le_trans this (by simp)))); have p1 := (G4.cell (p := ⟨w.heap.size, 0, none⟩) zA).trans e1; have p2 := (G4.cell (p := ⟨w.heap.size, 1, none⟩) zA).trans e2; have p3 := (G4.cell (p := ⟨w.heap.size + 1, 0, none⟩) zB).trans e3; have p4 := (G4.cell (p := ⟨w.heap.size + 1, 1, none⟩) zB).trans e4; (first | (have bG4 : Box w4 w0.heap.size 34 [.int .i64 0, .int .i64 0] := bG.call hb4) | (have bG4 : Box w4 w3.heap.size 34 [.int .i64 0, .int .i64 0] := (Box.new w3 34 [.int .i64 0, .int .i64 0]).call hb4) | skip)))
        | (go_at_call 22; ((with_reducible refine (meet_s a b c d _ ha1 ha2 hc1 hc2).mono ?_); rintro e w5 ⟨rfl, hb5⟩; have G5 : Below w0.heap.size w0 w5 := (by first | exact G4.trans (hb5.mono G4.size) | exact (G4.alloc G4.size _).trans (hb5.mono (by have := G4.size; first | exact this | (simp; done) | (simp; omega) | exact Nat.le_trans this (by simp)))); have r1 := (G5.cell (p := ⟨w.heap.size, 0, none⟩) zA).trans e1; have r2 := (G5.cell (p := ⟨w.heap.size, 1, none⟩) zA).trans e2; have r3 := (G5.cell (p := ⟨w.heap.size + 1, 0, none⟩) zB).trans e3; have r4 := (G5.cell (p := ⟨w.heap.size + 1, 1, none⟩) zB).trans e4; (first | (have bG5 := bG4.call hb5; have k5 := bG5.cell; have l5 := bG5.frozen; have z5 := bG5.lt) | (have bG5 : Box w5 w4.heap.size 34 [.int .i64 0, .int .i64 0] := (Box.new w4 34 [.int .i64 0, .int .i64 0]).call hb5; have k5 := bG5.cell; have l5 := bG5.frozen; have z5 := bG5.lt) | skip))))
    all_goals
      go_wp2_with fail
      go_meet
      first | exact ⟨_, rfl, rfl, metEnd G5 bG5 (by first | exact Nat.le_refl _ | exact G3.size | exact G4.size | exact G5.size | (simp; done))⟩ | exact ⟨_, rfl, rfl, metEnd2 G5⟩
  case rest =>
    obtain ⟨g, rfl, rfl, B1, hg, hgl, m0, m1⟩ := hcut
    have B01 := B0.trans (B1.mono B0.size)
    obtain ⟨W1, hW1⟩ : ∃ W1, W1 = wc := ⟨_, rfl⟩
    rw [← hW1] at B1 hgl m0 m1 B01 ⊢
    clear hW1
    have h1' := (B1.cell (p := ⟨w.heap.size, 0, none⟩) zA).trans e1
    have h2' := (B1.cell (p := ⟨w.heap.size, 1, none⟩) zA).trans e2
    have h3' := (B1.cell (p := ⟨w.heap.size + 1, 0, none⟩) zB).trans e3
    have h4' := (B1.cell (p := ⟨w.heap.size + 1, 1, none⟩) zB).trans e4
    have yA := Nat.lt_of_lt_of_le zA B1.size
    have yB := Nat.lt_of_lt_of_le zB B1.size
    have HM := Lib.hid (And.intro m0 m1)
    clear bA bB m0 m1 e1 e2 e3 e4 zA zB B0 B1
    go_upto_region 2 with fail
    go_cut [7, 8] (fun s o wx => ∃ g, s = .pointer (some ⟨g, 0, none⟩) ∧ o = .bool (meetOk a b c d) ∧ Below W1.heap.size W1 wx ∧ W1.heap.size ≤ g ∧ g < wx.heap.size ∧ wx.cell? ⟨g, 0, none⟩ = some (.int .i64 (meetLo a b c d)) ∧ wx.cell? ⟨g, 1, none⟩ = some (.int .i64 (meetHi a b c d)))
    case first =>
      have K0 : Below W1.heap.size W1 W1.drew := (Below.refl _ W1).drew
      go_region_held3 (fun w' => w'.cell? ⟨w.heap.size, 0, none⟩ = some (.int .i64 a) ∧ w'.cell? ⟨w.heap.size, 1, none⟩ = some (.int .i64 b) ∧ w'.cell? ⟨w.heap.size + 1, 0, none⟩ = some (.int .i64 c) ∧ w'.cell? ⟨w.heap.size + 1, 1, none⟩ = some (.int .i64 d))
        (first | exact keep4 yA yB h1' h2' h3' h4' ((G5.setCell (by first | exact Nat.le_refl _ | exact G3.size | exact G4.size | exact G5.size | (simp; done)) _).setCell (by first | exact Nat.le_refl _ | exact G3.size | exact G4.size | exact G5.size | (simp; done)) _) | exact keep4 yA yB h1' h2' h3' h4' (((G5.alloc G5.size _).setCell (by first | exact Nat.le_refl _ | exact G3.size | exact G4.size | exact G5.size | (simp; done)) _).setCell (by first | exact Nat.le_refl _ | exact G3.size | exact G4.size | exact G5.size | (simp; done)) _) | exact ⟨r1, r2, r3, r4⟩ | exact ⟨p1, p2, p3, p4⟩ | exact ⟨q1, q2, q3, q4⟩ | (go_keep; done) | (trace_state; fail))
        (first
          | (go_at_call 23; ((with_reducible refine (toRange_w a b _).mono ?_); rintro e w3 ⟨rfl, hb3⟩; have G3 : Below W1.heap.size W1 w3 := (by first | exact K0.trans (hb3.mono K0.size) | exact (K0.alloc K0.size _).trans (hb3.mono (by have := K0.size; first | exact this | (simp; done) | (simp; omega) | exact Nat.le_trans this (by simp)))); have q1 := (G3.cell (p := ⟨w.heap.size, 0, none⟩) yA).trans h1'; have q2 := (G3.cell (p := ⟨w.heap.size, 1, none⟩) yA).trans h2'; have q3 := (G3.cell (p := ⟨w.heap.size + 1, 0, none⟩) yB).trans h3'; have q4 := (G3.cell (p := ⟨w.heap.size + 1, 1, none⟩) yB).trans h4'; (first | (have bG : Box w3 W1.heap.size 34 [.int .i64 0, .int .i64 0] := (Box.new W1.drew 34 [.int .i64 0, .int .i64 0]).call hb3) | skip)))
          | (go_at_call 23; ((with_reducible refine (toRange_w c d _).mono ?_); rintro e w4 ⟨rfl, hb4⟩; have G4 : Below W1.heap.size W1 w4 := (by first | exact G3.trans (hb4.mono G3.size) | exact (G3.alloc G3.size _).trans (hb4.mono (by have := G3.size; first | exact this | (simp; done) | (simp; omega) | exact Nat.le_trans this (by simp)))); have p1 := (G4.cell (p := ⟨w.heap.size, 0, none⟩) yA).trans h1'; have p2 := (G4.cell (p := ⟨w.heap.size, 1, none⟩) yA).trans h2'; have p3 := (G4.cell (p := ⟨w.heap.size + 1, 0, none⟩) yB).trans h3'; have p4 := (G4.cell (p := ⟨w.heap.size + 1, 1, none⟩) yB).trans h4'; (first | (have bG4 : Box w4 W1.heap.size 34 [.int .i64 0, .int .i64 0] := bG.call hb4) | (have bG4 : Box w4 w3.heap.size 34 [.int .i64 0, .int .i64 0] := (Box.new w3 34 [.int .i64 0, .int .i64 0]).call hb4) | skip)))
          | (go_at_call 24; ((with_reducible refine (meet_i a b c d _ ha1 ha2 hc1 hc2).mono ?_); rintro e w5 ⟨rfl, hb5⟩; have G5 : Below W1.heap.size W1 w5 := (by first | exact G4.trans (hb5.mono G4.size) | exact (G4.alloc G4.size _).trans (hb5.mono (by have := G4.size; first | exact this | (simp; done) | (simp; omega) | exact Nat.le_trans this (by simp)))); have r1 := (G5.cell (p := ⟨w.heap.size, 0, none⟩) yA).trans h1'; have r2 := (G5.cell (p := ⟨w.heap.size, 1, none⟩) yA).trans h2'; have r3 := (G5.cell (p := ⟨w.heap.size + 1, 0, none⟩) yB).trans h3'; have r4 := (G5.cell (p := ⟨w.heap.size + 1, 1, none⟩) yB).trans h4'; (first | (have bG5 := bG4.call hb5; have k5 := bG5.cell; have l5 := bG5.frozen; have z5 := bG5.lt) | (have bG5 : Box w5 w4.heap.size 34 [.int .i64 0, .int .i64 0] := (Box.new w4 34 [.int .i64 0, .int .i64 0]).call hb5; have k5 := bG5.cell; have l5 := bG5.frozen; have z5 := bG5.lt) | skip))))
      all_goals
        go_wp2_with fail
        go_meet
        first | exact ⟨_, rfl, rfl, metEnd G5 bG5 (by first | exact Nat.le_refl _ | exact G3.size | exact G4.size | exact G5.size | (simp; done))⟩ | exact ⟨_, rfl, rfl, metEnd2 G5⟩
    case rest =>
      obtain ⟨g2, rfl, rfl, B2, hg2, hgl2, n0, n1⟩ := hcut
      have B02 := B01.trans (B2.mono B01.size)
      have m0 := (B2.cell (p := ⟨g, 0, none⟩) hgl).trans HM.out.1
      have m1 := (B2.cell (p := ⟨g, 1, none⟩) hgl).trans HM.out.2
      clear h1' h2' h3' h4' yA yB
      go_wp2_with fail
      refine (eqRange_w _ _ _).mono ?_
      rintro e w6 ⟨rfl, hb6⟩
      have B03 := B02.trans (hb6.mono B02.size)
      cases hok : meetOk a b c d
      all_goals
        go_wp2
        go_ret
        exact ⟨rfl, B03⟩
end Go.Proofs.Ytokppmhihghapaa
