/- Whether a value fits a type: by the reference. Whether a value fits a type: by the reference: the whole. Whether a value fits a type: by the reference: the kinds with kids, and the whole. Fits: by the reference and by the program. -/
import Derived.Test.YtcpadaelgdmipaaGreatDoorPkFj
import Derived.Test.YtcpadaelgdmipaaGreatDoorTyOkS
import Derived.Test.YtcpadaelgdmipaaGreatDoorPkOk
namespace Go.Proofs.YtcpadaelgdmipaaGreatDoor
open Go.RowKit

def anyW : World → Prop := fun _ => True
/-- So far all are so. -/
def FAllTo {α : Type} (p : α → Bool) (l : List α) (k : Nat) : Prop := (l.take k).all p = true
theorem FAllTo.zero {α : Type} (p : α → Bool) (l : List α) : FAllTo p l 0 := by simp [FAllTo]
theorem FAllTo.next {α : Type} {p : α → Bool} {l : List α} {k : Nat} {x : α} (h : FAllTo p l k) (hx : l[k]? = some x) (hp : p x = true) : FAllTo p l (k + 1) := by
  unfold FAllTo at h ⊢
  rw [List.take_add_one, hx, List.all_append, h]
  simp [hp]
theorem FAllTo.end_ {α : Type} {p : α → Bool} {l : List α} (h : FAllTo p l l.length) : l.all p = true := by
  unfold FAllTo at h
  rwa [List.take_length] at h
theorem all_bad {α : Type} {p : α → Bool} {l : List α} {k : Nat} {x : α} (hx : l[k]? = some x) (hp : p x = false) : l.all p = false := by
  rw [List.all_eq_false]
  exact ⟨x, List.mem_of_getElem? hx, by rw [hp]; decide⟩
set_option maxHeartbeats 4000000 in
set_option maxRecDepth 20000 in
theorem l04Items_s (vs : List Va) (ih : ∀ x ∈ vs, FitFn 47 anyW x) (t : Ty) (hall : Ty.all shape t = true) (most : Nat) (z : Int) (hz : z = (most : Int)) (hm : most ≤ 8) (A : Option Addr) (c : Nat) (cs' : List Value) (w : World)
    (hvs : D.At w anyB (rows Va.ds 4 vs) (.slice A vs.length c)) (hcs' : D.Ats w anyB t.ds cs') :
    Calls Tryz.prog 77 #[.slice A vs.length c, .int .i64 z, .agg cs'.toArray] w fun e w' => e = .returned (.bool (decide (vs.length ≤ most) && vs.all fun v => fitV v t)) ∧ Below w.heap.size w w' := by
  subst hz
  obtain ⟨g0, g1, g2, g3, g4, g5, g6, g7, rfl⟩ := Ty.form hcs'
  obtain ⟨-, hvn, hvc⟩ := rows_bound hvs
  unfold maxLen at hvc
  obtain ⟨w0, hw0⟩ : ∃ w0, w0 = w.alloc (.cells #[.int .i64 g0, .string g1, .slice g2 g3 g4, .slice g5 g6 g7] 40) := ⟨_, rfl⟩
  have B0 : Below w.heap.size w w0 := by rw [hw0]; exact (Below.refl _ _).alloc (Nat.le_refl _) _
  have bT : Box w0 w.heap.size 40 [.int .i64 g0, .string g1, .slice g2 g3 g4, .slice g5 g6 g7] := by rw [hw0]; exact Box.new w _ _
  have HVS := Lib.hid hvs
  have HTT := Lib.hid hcs'
  have HIH := Lib.hid ih
  have HALL := Lib.hid hall
  have HB0 := Lib.hid B0
  have HBT := Lib.hid bT
  clear hvs hcs' ih hall B0 bT
  change Calls Tryz.prog 77 #[.slice A vs.length c, .int .i64 most, .agg #[.int .i64 g0, .string g1, .slice g2 g3 g4, .slice g5 g6 g7]] w _
  by_cases hle : vs.length ≤ most
  · have i0 : ¬ (most : Int) < (vs.length : Int) := by omega
    have HD := Lib.hid (decide_eq_true hle)
    go_enter Tryz.func77, Tryz.ntmps77
    go_upto_region 1 with fail
    rw [← hw0]
    clear hw0
    go_wp2
    go_loopw [7] (fun i wr => ∃ q : Nat, q ≤ vs.length ∧ i = .int .i64 q ∧ FAllTo (fun v => fitV v t) vs q ∧ Below w0.heap.size w0 wr) (fun i _ => vs.length - (intOf i).toNat)
    case atStart => exact ⟨0, Nat.zero_le _, rfl, FAllTo.zero _ _, Below.refl _ _⟩
    case round =>
      obtain ⟨q, hq, rfl, hft, hb⟩ := hrel
      by_cases hlt : q < vs.length
      · obtain ⟨x, hx⟩ : ∃ x, vs[q]? = some x := ⟨vs[q], List.getElem?_eq_getElem hlt⟩
        have i1 : (0 : Int) ≤ (q : Int) := by omega
        have i2 : (q : Int) < (vs.length : Int) := by omega
        have hbw := HB0.out.trans (hb.mono HB0.out.size)
        obtain ⟨b, off, u0, u1, u2, u3, e, -, hbl, hat, d0, d1, d2, d3⟩ := rows_at4 Va.len (HVS.out.below hbw) hx
        subst e
        obtain ⟨f0, f1, f2, f3, f4, f5, exx⟩ := Va.form hat
        simp only [List.cons.injEq, and_true] at exx
        obtain ⟨rfl, rfl, rfl, rfl⟩ := exx
        have bX := HBT.out.call hb
        have HXY := Lib.hid (fun W (h : Below wr.heap.size wr W) => HIH.out x (List.mem_of_getElem? hx) t HALL.out _ _ W trivial (hat.below h) ((HTT.out.below hbw).below h))
        have HBW := Lib.hid hb
        have HN := Lib.hid (And.intro hft hx)
        obtain ⟨Z, hZ⟩ : ∃ Z, fitV x t = Z := ⟨_, rfl⟩
        simp only [hZ] at HXY
        have HZ := Lib.hid hZ
        replace d0 := cell_regrown d0
        replace d1 := cell_regrown d1
        replace d2 := cell_regrown d2
        replace d3 := cell_regrown d3
        have x0 := cell_regrown (show wr.cell? ⟨w.heap.size, 0, none⟩ = some (.int .i64 g0) from bX.cell 0)
        have x1 := cell_regrown (show wr.cell? ⟨w.heap.size, 1, none⟩ = some (.string g1) from bX.cell 1)
        have x2 := cell_regrown (show wr.cell? ⟨w.heap.size, 2, none⟩ = some (.slice g2 g3 g4) from bX.cell 2)
        have x3 := cell_regrown (show wr.cell? ⟨w.heap.size, 3, none⟩ = some (.slice g5 g6 g7) from bX.cell 3)
        clear hZ hx hft hb hbw hat bX
        go_upto_region 6 with fail
        refine wp_region_quiet_below (by kernel_rfl) (by kernel_rfl) ?_
        repeat (first | go_big_quiet_step (with_reducible exact Calls.regrown_of (HXY.out _ (below_regrown _ _ _))) | quiet_step (with_reducible exact Calls.regrown_of (HXY.out _ (below_regrown _ _ _))))
        refine wpQuiet_nil ?_
        intro w6 hw6
        have HB6 := Lib.hid (HBW.out.trans ((below_of_regrown hw6).mono HBW.out.size))
        clear hw6 d0 d1 d2 d3 x0 x1 x2 x3
        cases Z
        · have HF := Lib.hid (all_bad (p := fun v => fitV v t) HN.out.2 HZ.out)
          go_wp2
          go_ret
          exact ⟨ret_eq (by rw [HD.out, HF.out]; try rfl), HB0.out.trans (HB6.out.mono HB0.out.size)⟩
        · have HF := Lib.hid (HN.out.1.next HN.out.2 HZ.out)
          go_wp2
          go_roundw
          case rel => exact ⟨q + 1, by omega, by go_num, HF.out, HB6.out⟩
          case measure => simp [intOf]; omega
      · obtain rfl : q = vs.length := by omega
        have HF := Lib.hid hft.end_
        have HB6 := Lib.hid hb
        clear hft hb
        go_wp2
        go_ret
        exact ⟨ret_eq (by rw [HD.out, HF.out]; try rfl), HB0.out.trans (HB6.out.mono HB0.out.size)⟩
  · have i0 : (most : Int) < (vs.length : Int) := by omega
    have HD := Lib.hid (decide_eq_false hle)
    go_enter Tryz.func77, Tryz.ntmps77
    go_upto_region 1 with fail
    rw [← hw0]
    clear hw0
    go_wp2
    go_ret
    exact ⟨ret_eq (by rw [HD.out]; try rfl), HB0.out⟩
set_option maxHeartbeats 4000000 in
set_option maxRecDepth 20000 in
theorem l04All_s (vs : List Va) (ih : ∀ x ∈ vs, FitFn 47 anyW x) (ts : List Ty) (hall : ∀ y ∈ ts, Ty.all shape y = true) (A A' : Option Addr) (c c' : Nat) (w : World)
    (hvs : D.At w anyB (rows Va.ds 4 vs) (.slice A vs.length c)) (hts : D.At w anyB (rows Ty.ds 4 ts) (.slice A' ts.length c')) :
    Calls Tryz.prog 80 #[.slice A vs.length c, .slice A' ts.length c'] w fun e w' => e = .returned (.bool ((ts.length == vs.length) && fitVs vs ts)) ∧ Below w.heap.size w w' := by
  obtain ⟨-, hvn, hvc⟩ := rows_bound hvs
  obtain ⟨-, htn, htc⟩ := rows_bound hts
  unfold maxLen at hvc htc
  have HVS := Lib.hid hvs
  have HTT := Lib.hid hts
  have HIH := Lib.hid ih
  have HALL := Lib.hid hall
  clear hvs hts ih hall
  by_cases hlen : ts.length = vs.length
  · have g5 : ((vs.length : Int) != (ts.length : Int)) = false := by rw [hlen]; simp
    have HL := Lib.hid hlen
    have HV2 := Lib.hid (show ((ts.length == vs.length) && fitVs vs ts) = fitVs vs ts by rw [hlen]; simp)
    clear hlen
    go_enter Tryz.func80, Tryz.ntmps80
    go_wp2
    go_loopw [5] (fun i wr => ∃ q : Nat, q ≤ vs.length ∧ i = .int .i64 q ∧ FitTo vs ts q ∧ Below w.heap.size w wr) (fun i _ => vs.length - (intOf i).toNat)
    case atStart => exact ⟨0, Nat.zero_le _, rfl, FitTo.zero _ _, Below.refl _ _⟩
    case round =>
      obtain ⟨q, hq, rfl, hft, hb⟩ := hrel
      by_cases hlt : q < vs.length
      · have hlt' : q < ts.length := by rw [HL.out]; exact hlt
        obtain ⟨x, hx⟩ : ∃ x, vs[q]? = some x := ⟨vs[q], List.getElem?_eq_getElem hlt⟩
        obtain ⟨y, hy⟩ : ∃ y, ts[q]? = some y := ⟨ts[q], List.getElem?_eq_getElem hlt'⟩
        have i0 : (0 : Int) ≤ (q : Int) := by omega
        have i1 : (q : Int) < (vs.length : Int) := by omega
        have i2 : (q : Int) < (ts.length : Int) := by omega
        obtain ⟨b, off, u0, u1, u2, u3, e, -, hbl, hat, d0, d1, d2, d3⟩ := rows_at4 Va.len (HVS.out.below hb) hx
        subst e
        obtain ⟨f0, f1, f2, f3, f4, f5, exx⟩ := Va.form hat
        simp only [List.cons.injEq, and_true] at exx
        obtain ⟨rfl, rfl, rfl, rfl⟩ := exx
        obtain ⟨b', off', v0, v1, v2, v3, e', -, hbl', hat', e0, e1, e2, e3⟩ := rows_at4 Ty.len (HTT.out.below hb) hy
        subst e'
        obtain ⟨g0, g1, g2, g3, g4, g5', g6, g7, eyy⟩ := Ty.form hat'
        simp only [List.cons.injEq, and_true] at eyy
        obtain ⟨rfl, rfl, rfl, rfl⟩ := eyy
        have HXY := Lib.hid (fun W (h : Below wr.heap.size wr W) => HIH.out x (List.mem_of_getElem? hx) y (HALL.out y (List.mem_of_getElem? hy)) _ _ W trivial (hat.below h) (hat'.below h))
        have HBW := Lib.hid hb
        have HN := Lib.hid (And.intro hft (And.intro hx hy))
        obtain ⟨Z, hZ⟩ : ∃ Z, fitV x y = Z := ⟨_, rfl⟩
        simp only [hZ] at HXY
        have HZ := Lib.hid hZ
        replace d0 := cell_regrown d0
        replace d1 := cell_regrown d1
        replace d2 := cell_regrown d2
        replace d3 := cell_regrown d3
        replace e0 := cell_regrown e0
        replace e1 := cell_regrown e1
        replace e2 := cell_regrown e2
        replace e3 := cell_regrown e3
        clear hZ hx hy hft hb hat hat'
        go_upto_region 6 with fail
        refine wp_region_quiet_below (by kernel_rfl) (by kernel_rfl) ?_
        repeat (first | go_big_quiet_step (with_reducible exact Calls.regrown_of (HXY.out _ (below_regrown _ _ _))) | quiet_step (with_reducible exact Calls.regrown_of (HXY.out _ (below_regrown _ _ _))))
        refine wpQuiet_nil ?_
        intro w6 hw6
        have HB6 := Lib.hid (HBW.out.trans ((below_of_regrown hw6).mono HBW.out.size))
        clear hw6 d0 d1 d2 d3 e0 e1 e2 e3
        cases Z
        · have HF := Lib.hid (HN.out.1.bad HN.out.2.1 HN.out.2.2 HZ.out)
          go_wp2
          go_ret
          exact ⟨ret_eq (by rw [HV2.out, HF.out]; try rfl), HB6.out⟩
        · have HF := Lib.hid (HN.out.1.next HN.out.2.1 HN.out.2.2 HZ.out)
          go_wp2
          go_roundw
          case rel => exact ⟨q + 1, by omega, by go_num, HF.out, HB6.out⟩
          case measure => simp [intOf]; omega
      · obtain rfl : q = vs.length := by omega
        have HF := Lib.hid hft.end_
        have HB6 := Lib.hid hb
        clear hft hb
        go_wp2
        go_ret
        exact ⟨ret_eq (by rw [HV2.out, HF.out]; try rfl), HB6.out⟩
  · have g5 : ((vs.length : Int) != (ts.length : Int)) = true := by rw [bne_iff_ne]; omega
    have HV2 := Lib.hid (show ((ts.length == vs.length) && fitVs vs ts) = false by rw [beq_eq_false_iff_ne.2 hlen, Bool.false_and])
    clear hlen
    go_enter Tryz.func80, Tryz.ntmps80
    go_wp2
    go_ret
    exact ⟨ret_eq (by rw [HV2.out]; try rfl), Below.refl _ _⟩
def caseB (vs : List Va) (t : Ty) : Bool := if isU t = true then vs.length == 0 else ((vs.length == 1) && vs.all fun v => fitV v t)
set_option maxHeartbeats 4000000 in
set_option maxRecDepth 20000 in
theorem l04Case_s (vs : List Va) (ih : ∀ x ∈ vs, FitFn 47 anyW x) (t : Ty) (hall : Ty.all shape t = true) (A : Option Addr) (c : Nat) (cs' : List Value) (w : World)
    (hvs : D.At w anyB (rows Va.ds 4 vs) (.slice A vs.length c)) (hcs' : D.Ats w anyB t.ds cs') :
    Calls Tryz.prog 82 #[.slice A vs.length c, .agg cs'.toArray] w fun e w' => e = .returned (.bool (caseB vs t)) ∧ Below w.heap.size w w' := by
  obtain ⟨k, n, l, kids⟩ := t
  have hcs2 := hcs'
  obtain ⟨A1, c1, A2, c2, rfl, -, -, -, -⟩ := Ty.open_ hcs'
  obtain ⟨-, hvn, hvc⟩ := rows_bound hvs
  unfold maxLen at hvc
  have B0 : Below w.heap.size w (w.alloc (.cells #[.int .i64 k, .string n, .slice A1 l.length c1, .slice A2 kids.length c2] 40)) := (Below.refl _ _).alloc (Nat.le_refl _) _
  change Calls Tryz.prog 82 #[.slice A vs.length c, .agg #[.int .i64 k, .string n, .slice A1 l.length c1, .slice A2 kids.length c2]] w _
  cases hu : (k == 1)
  · have hcb : caseB vs (.mk k n l kids) = ((vs.length == 1) && vs.all fun v => fitV v (.mk k n l kids)) := by unfold caseB; rw [if_neg (by show ¬ (k == 1) = true; rw [hu]; decide)]
    by_cases hl1 : vs.length = 1
    · obtain ⟨x, rfl⟩ := List.length_eq_one_iff.1 hl1
      have HV := Lib.hid (show caseB [x] (.mk k n l kids) = fitV x (.mk k n l kids) by rw [hcb]; simp)
      obtain ⟨b, off, u0, u1, u2, u3, e, -, hbl, hat, d0, d1, d2, d3⟩ := rows_at4 (i := 0) (x := x) Va.len hvs rfl
      subst e
      simp only [Nat.zero_mul, Nat.add_zero] at d0 d1 d2 d3
      obtain ⟨f0, f1, f2, f3, f4, f5, exx⟩ := Va.form hat
      simp only [List.cons.injEq, and_true] at exx
      obtain ⟨rfl, rfl, rfl, rfl⟩ := exx
      obtain ⟨w0, hw0⟩ : ∃ w0, w0 = w.alloc (.cells #[.int .i64 k, .string n, .slice A1 l.length c1, .slice A2 kids.length c2] 40) := ⟨_, rfl⟩
      rw [← hw0] at B0
      have bT : Box w0 w.heap.size 40 [.int .i64 k, .string n, .slice A1 l.length c1, .slice A2 kids.length c2] := by rw [hw0]; exact Box.new w _ _
      have HXY := Lib.hid (fun W (h : Below w0.heap.size w0 W) => ih x (by simp) _ hall _ _ W trivial ((hat.below B0).below h) ((hcs2.below B0).below h))
      have HB0 := Lib.hid B0
      obtain ⟨Z, hZ⟩ : ∃ Z, fitV x (.mk k n l kids) = Z := ⟨_, rfl⟩
      rw [hZ] at HV
      simp only [hZ] at HXY
      replace d0 := cell_regrown ((B0.cell (p := ⟨b, off, none⟩) hbl).trans d0)
      replace d1 := cell_regrown ((B0.cell (p := ⟨b, off + 1, none⟩) hbl).trans d1)
      replace d2 := cell_regrown ((B0.cell (p := ⟨b, off + 2, none⟩) hbl).trans d2)
      replace d3 := cell_regrown ((B0.cell (p := ⟨b, off + 3, none⟩) hbl).trans d3)
      have kT := bT.cell
      have x0 := cell_regrown (show w0.cell? ⟨w.heap.size, 0, none⟩ = some (.int .i64 k) from bT.cell 0)
      have x1 := cell_regrown (show w0.cell? ⟨w.heap.size, 1, none⟩ = some (.string n) from bT.cell 1)
      have x2 := cell_regrown (show w0.cell? ⟨w.heap.size, 2, none⟩ = some (.slice A1 l.length c1) from bT.cell 2)
      have x3 := cell_regrown (show w0.cell? ⟨w.heap.size, 3, none⟩ = some (.slice A2 kids.length c2) from bT.cell 3)
      clear ih hvs hvn hall hcs' hcs2 hcb B0 hZ hat bT hl1
      go_enter Tryz.func82, Tryz.ntmps82
      go_upto_region 1 with fail
      rw [← hw0]
      clear hw0
      go_upto_region 3 with fail
      refine wp_region_quiet_below (by kernel_rfl) (by kernel_rfl) ?_
      repeat (first | go_big_quiet_step (with_reducible exact Calls.regrown_of (HXY.out _ (below_regrown _ _ _))) | quiet_step (with_reducible exact Calls.regrown_of (HXY.out _ (below_regrown _ _ _))))
      refine wpQuiet_nil ?_
      intro w6 hw6
      have HB6 := Lib.hid (HB0.out.trans ((below_of_regrown hw6).mono HB0.out.size))
      clear hw6 d0 d1 d2 d3 x0 x1 x2 x3 kT
      go_wp2
      go_ret
      exact ⟨ret_eq (by rw [HV.out]; try rfl), HB6.out⟩
    · have HV := Lib.hid (show caseB vs (.mk k n l kids) = false by rw [hcb, beq_eq_false_iff_ne.2 hl1, Bool.false_and])
      have g1 : ((vs.length : Int) == 1) = false := beq_eq_false_iff_ne.2 (by omega)
      have HB0 := Lib.hid B0
      clear ih hvs hall hcs' hcs2 hcb B0 hl1
      go_enter Tryz.func82, Tryz.ntmps82
      go_upto_region 3 with fail
      go_quiet (fail)
      go_wp2
      go_ret
      exact ⟨ret_eq (by rw [HV.out]; try rfl), below_drewN HB0.out _⟩
  · have HV := Lib.hid (show caseB vs (.mk k n l kids) = (vs.length == 0) by unfold caseB; rw [if_pos (show isU (.mk k n l kids) = true from hu)])
    have HB0 := Lib.hid B0
    cases h0 : (vs.length == 0)
    all_goals
      have h0' : ((vs.length : Int) == 0) = (vs.length == 0) := by rw [Bool.eq_iff_iff, beq_iff_eq, beq_iff_eq]; omega
      rw [h0] at h0' HV
      clear h0 ih hvs hall hcs' hcs2 B0
      go_enter Tryz.func82, Tryz.ntmps82
      go_wp2
      go_ret
      exact ⟨ret_eq (by rw [HV.out]; try rfl), HB0.out⟩
end Go.Proofs.YtcpadaelgdmipaaGreatDoor
namespace Go.Proofs.YtcpadaelgdmipaaGreatDoor
open Go.RowKit

theorem l00In_z {n lo hi : Int} {Z : Bool} (h : inR lo n hi = Z) (w : World) : Calls Tryz.prog 49 #[.int .i64 n, .int .i64 lo, .int .i64 hi] w fun e w' => e = .returned (.bool Z) ∧ w = w' := by
  subst h
  exact l00In_any n lo hi w
theorem numRange_z {k : Int} {a b : Int} {c : Bool} (h : numRange k = (a, b, c)) (w : World) : Calls Tryz.prog 81 #[.int .i64 k] w fun e w' => e = .returned (.tuple #[.int .i64 a, .int .i64 b, .bool c]) ∧ w = w' := by
  have := numRange_s k w
  unfold RetRange at this
  rw [h] at this
  exact this
theorem charOk_z {n : Int} {Z : Bool} (h : charOk n = Z) (w : World) : Calls Tryz.prog 78 #[.int .i64 n] w fun e w' => e = .returned (.bool Z) ∧ w = w' := by
  subst h
  exact charOk_s n w
set_option maxHeartbeats 8000000 in
set_option maxRecDepth 20000 in
theorem fitPlain_s (k m : Int) (s : ByteArray) (vs : List Va) (n : ByteArray) (l : List ByteArray) (kids : List Ty) (A A1 A2 : Option Addr) (c c1 c2 : Nat) (w : World) (hk : 1 ≤ k ∧ k ≤ 23) (hp : ¬ (k = 11 ∨ k = 12 ∨ k = 13 ∨ k = 14 ∨ k = 15 ∨ k = 16 ∨ k = 17)) (hl19 : l.length ≤ 16 ∨ k ≠ 19)
    (hl2 : l.length ≤ 9223372036854775807) (ge : s.toList = []) :
    Calls Tryz.prog 47 #[.agg #[.int .i64 k, .int .i64 m, .string s, .slice A vs.length c], .agg #[.int .i64 k, .string n, .slice A1 l.length c1, .slice A2 kids.length c2]] w
      fun e w' => e = .returned (.bool (fitV (.mk k m s vs) (.mk k n l kids))) ∧ Below w.heap.size w w' := by
  have HV := Lib.hid (fit_plain (m := m) (s := s) (vs := vs) (n := n) (l := l) (kids := kids) hp)
  have HE := Lib.hid (show s.toList.isEmpty = true by rw [ge]; rfl)
  obtain ⟨Z, hz⟩ : ∃ Z, numFits k l.length m = Z := ⟨_, rfl⟩
  obtain ⟨V, hv⟩ : ∃ V, (vs.length == 0) = V := ⟨_, rfl⟩
  have g0 : ((vs.length : Int) == 0) = V := by rw [← hv, Bool.eq_iff_iff, beq_iff_eq, beq_iff_eq]; omega
  have HR := Lib.hid (show fitV (.mk k m s vs) (.mk k n l kids) = (Z && V) by rw [HV.out, HE.out, hz, hv, Bool.true_and])
  have HZ := Lib.hid hz
  clear hv hz HV HE
  obtain ⟨F, hF⟩ : ∃ F, fitV (.mk k m s vs) (.mk k n l kids) = F := ⟨_, rfl⟩
  rw [hF] at HR ⊢
  clear hF
  rcases kind_ways hk with rfl | rfl | rfl | rfl | rfl | rfl | rfl | rfl | rfl | rfl | rfl | rfl | rfl | rfl | rfl | rfl | rfl | rfl | rfl | rfl | rfl | rfl | rfl
  case inr.inr.inr.inr.inr.inr.inr.inr.inr.inr.inl => exact absurd (.inl rfl) hp
  case inr.inr.inr.inr.inr.inr.inr.inr.inr.inr.inr.inl => exact absurd (by decide) hp
  case inr.inr.inr.inr.inr.inr.inr.inr.inr.inr.inr.inr.inl => exact absurd (by decide) hp
  case inr.inr.inr.inr.inr.inr.inr.inr.inr.inr.inr.inr.inr.inl => exact absurd (by decide) hp
  case inr.inr.inr.inr.inr.inr.inr.inr.inr.inr.inr.inr.inr.inr.inl => exact absurd (by decide) hp
  case inr.inr.inr.inr.inr.inr.inr.inr.inr.inr.inr.inr.inr.inr.inr.inl => exact absurd (by decide) hp
  case inr.inr.inr.inr.inr.inr.inr.inr.inr.inr.inr.inr.inr.inr.inr.inr.inl => exact absurd (by decide) hp
  case inr.inr.inr.inr.inr.inr.inr.inr.inr.inr.inr.inr.inr.inr.inr.inr.inr.inr.inl =>
    have h16 : l.length ≤ 16 := hl19.resolve_right (fun h => h rfl)
    have i16 : (l.length : Int) ≤ 16 := by omega
    have i17 : (0 : Int) ≤ (l.length : Int) := by omega
    have HS := Lib.hid (shl_1 l.length h16)
    clear hp hk hl19
    cases Z
    all_goals
      cases V
      all_goals
        go_enter Tryz.func47, Tryz.ntmps47
        go_wp2_with fail
        rw [HS.out]
        refine (l00In_z (by exact HZ.out) _).mono ?_
        rintro e w1 ⟨rfl, rfl⟩
        go_wp2
        go_ret
        exact ⟨ret_eq (by rw [HR.out]; try rfl), (by repeat (first | exact Below.refl _ _ | refine Below.alloc ?_ (by first | omega | (simp <;> omega)) _))⟩
  all_goals
    clear hp hk hl19
    cases Z
    all_goals
      cases V
      all_goals
        go_enter Tryz.func47, Tryz.ntmps47
        go_wp2_with (first
          | (go_at_call 81; refine (numRange_z rfl _).mono ?_; rintro e w1 ⟨rfl, rfl⟩)
          | (go_at_call 78; refine (charOk_z (by exact HZ.out) _).mono ?_; rintro e w1 ⟨rfl, rfl⟩)
          | (go_at_call 49; refine (l00In_z (by exact HZ.out) _).mono ?_; rintro e w1 ⟨rfl, rfl⟩))
        go_ret
        exact ⟨ret_eq (by rw [HR.out]; try rfl), (by repeat (first | exact Below.refl _ _ | refine Below.alloc ?_ (by first | omega | (simp <;> omega)) _))⟩
end Go.Proofs.YtcpadaelgdmipaaGreatDoor
namespace Go.Proofs.YtcpadaelgdmipaaGreatDoor
open Go.RowKit

theorem inR00 (m : Int) (Z : Bool) (h : (m == 0) = Z) : inR 0 m 0 = Z := by
  rw [← h, Bool.eq_iff_iff, inR_iff, beq_iff_eq]; omega
set_option maxHeartbeats 8000000 in
set_option maxRecDepth 20000 in
theorem fitText_s (m : Int) (s : ByteArray) (vs : List Va) (n : ByteArray) (l : List ByteArray) (kids : List Ty) (A A1 A2 : Option Addr) (c c1 c2 : Nat) (w : World) :
    Calls Tryz.prog 47 #[.agg #[.int .i64 11, .int .i64 m, .string s, .slice A vs.length c], .agg #[.int .i64 11, .string n, .slice A1 l.length c1, .slice A2 kids.length c2]] w
      fun e w' => e = .returned (.bool (fitV (.mk 11 m s vs) (.mk 11 n l kids))) ∧ Below w.heap.size w w' := by
  have HV := Lib.hid (fit_text (m := m) (s := s) (vs := vs) (n := n) (l := l) (kids := kids))
  obtain ⟨w0, hw0, B0, bA, bB⟩ := blocks2 w 34 40 [.int .i64 11, .int .i64 m, .string s, .slice A vs.length c] [.int .i64 11, .string n, .slice A1 l.length c1, .slice A2 kids.length c2]
  have kA := bA.cell
  have kB := bB.cell
  have HB0 := Lib.hid B0
  have HTX := Lib.hid (fun W => textOk_s s W)
  clear B0
  cases hx : textOk s <;> cases hm : (m == 0) <;> cases hv : (vs.length == 0)
  all_goals
    have g0 : ((vs.length : Int) == 0) = (vs.length == 0) := by rw [Bool.eq_iff_iff, beq_iff_eq, beq_iff_eq]; omega
    have HR := Lib.hid (HV.out.trans (by rw [hx, hm, hv]))
    rw [hx] at HTX
    rw [hv] at g0
    clear hv hx
    go_enter Tryz.func47, Tryz.ntmps47
    go_upto_region 1 with fail
    rw [← hw0]
    clear hw0
    go_wp2_with fail
    refine (HTX.out _).mono ?_
    rintro e w1 ⟨rfl, hb1⟩
    have HB1 := Lib.hid (HB0.out.trans (hb1.mono HB0.out.size))
    clear kA kB
    have bA1 := bA.call hb1
    have kA := bA1.cell
    clear hb1
    go_wp2
    go_ret
    exact ⟨ret_eq (by rw [HR.out]; try rfl), HB1.out⟩
set_option maxHeartbeats 8000000 in
set_option maxRecDepth 20000 in
theorem fitAll_s (k m : Int) (s : ByteArray) (vs : List Va) (n : ByteArray) (l : List ByteArray) (kids : List Ty) (A A1 A2 : Option Addr) (c c1 c2 : Nat) (w : World) (hk : k = 15 ∨ k = 16) (ge : s.toList = [])
    (ih : ∀ x ∈ vs, FitFn 47 anyW x) (hall : ∀ y ∈ kids, Ty.all shape y = true) (hvs : D.At w anyB (rows Va.ds 4 vs) (.slice A vs.length c)) (hts : D.At w anyB (rows Ty.ds 4 kids) (.slice A2 kids.length c2)) :
    Calls Tryz.prog 47 #[.agg #[.int .i64 k, .int .i64 m, .string s, .slice A vs.length c], .agg #[.int .i64 k, .string n, .slice A1 l.length c1, .slice A2 kids.length c2]] w
      fun e w' => e = .returned (.bool (fitV (.mk k m s vs) (.mk k n l kids))) ∧ Below w.heap.size w w' := by
  have HV := Lib.hid (fit_all (m := m) (s := s) (vs := vs) (n := n) (l := l) (kids := kids) hk)
  have HE := Lib.hid (show s.toList.isEmpty = true by rw [ge]; rfl)
  obtain ⟨w0, hw0, B0, bA, bB⟩ := blocks2 w 34 40 [.int .i64 k, .int .i64 m, .string s, .slice A vs.length c] [.int .i64 k, .string n, .slice A1 l.length c1, .slice A2 kids.length c2]
  have kA := bA.cell
  have kB := bB.cell
  have HB0 := Lib.hid B0
  have HAL := Lib.hid (l04All_s vs ih kids hall A A2 c c2 w0 (hvs.below B0) (hts.below B0))
  obtain ⟨Q, hQ⟩ : ∃ Q, ((kids.length == vs.length) && fitVs vs kids) = Q := ⟨_, rfl⟩
  rw [hQ] at HV HAL
  obtain ⟨F, hF⟩ : ∃ F, fitV (.mk k m s vs) (.mk k n l kids) = F := ⟨_, rfl⟩
  rw [hF] at HV ⊢
  clear B0 ih hall hvs hts hQ hF
  rcases hk with rfl | rfl
  all_goals
    cases hm : (m == 0)
    · have HR := Lib.hid (show F = false by rw [HV.out, HE.out, hm]; rfl)
      go_enter Tryz.func47, Tryz.ntmps47
      go_upto_region 1 with fail
      rw [← hw0]
      clear hw0
      go_wp2
      go_ret
      exact ⟨ret_eq (by rw [HR.out]; try rfl), HB0.out⟩
    · have HR := Lib.hid (show F = Q by rw [HV.out, HE.out, hm]; rfl)
      go_enter Tryz.func47, Tryz.ntmps47
      go_upto_region 1 with fail
      rw [← hw0]
      clear hw0
      go_wp2_with fail
      refine HAL.out.mono ?_
      rintro e w1 ⟨rfl, hb1⟩
      have HB1 := Lib.hid (HB0.out.trans (hb1.mono HB0.out.size))
      clear hb1 kA kB
      go_wp2
      go_ret
      exact ⟨ret_eq (by rw [HR.out]; try rfl), HB1.out⟩
set_option maxHeartbeats 8000000 in
set_option maxRecDepth 20000 in
theorem fitItems_s (k m : Int) (s : ByteArray) (vs : List Va) (n : ByteArray) (l : List ByteArray) (x : Ty) (A A1 A2 : Option Addr) (c c1 c2 : Nat) (w : World) (hk : k = 12 ∨ k = 13) (ge : s.toList = [])
    (ih : ∀ x ∈ vs, FitFn 47 anyW x) (hall : Ty.all shape x = true) (hu : isU x = false) (hvs : D.At w anyB (rows Va.ds 4 vs) (.slice A vs.length c)) (hts : D.At w anyB (rows Ty.ds 4 [x]) (.slice A2 1 c2)) :
    Calls Tryz.prog 47 #[.agg #[.int .i64 k, .int .i64 m, .string s, .slice A vs.length c], .agg #[.int .i64 k, .string n, .slice A1 l.length c1, .slice A2 1 c2]] w
      fun e w' => e = .returned (.bool (fitV (.mk k m s vs) (.mk k n l [x]))) ∧ Below w.heap.size w w' := by
  have HE := Lib.hid (show s.toList.isEmpty = true by rw [ge]; rfl)
  obtain ⟨w0, hw0, B0, bA, bB⟩ := blocks2 w 34 40 [.int .i64 k, .int .i64 m, .string s, .slice A vs.length c] [.int .i64 k, .string n, .slice A1 l.length c1, .slice A2 1 c2]
  obtain ⟨-, hvn, hvc⟩ := rows_bound hvs
  unfold maxLen at hvc
  have kA := bA.cell
  have kB := bB.cell
  have HB0 := Lib.hid B0
  obtain ⟨b, off, u0, u1, u2, u3, e, -, hbl, hat, d0, d1, d2, d3⟩ := rows_at4 (i := 0) (x := x) Ty.len hts rfl
  subst e
  simp only [Nat.zero_mul, Nat.add_zero] at d0 d1 d2 d3
  obtain ⟨f0, f1, f2, f3, f4, f5, f6, f7, exx⟩ := Ty.form hat
  simp only [List.cons.injEq, and_true] at exx
  obtain ⟨rfl, rfl, rfl, rfl⟩ := exx
  have HIT := Lib.hid (fun (most : Nat) (z : Int) (hz : z = (most : Int)) (hm : most ≤ 8) W (h : Below w0.heap.size w0 W) => l04Items_s vs ih x hall most z hz hm A c _ W ((hvs.below B0).below h) ((hat.below B0).below h))
  replace d0 := cell_regrown ((B0.cell (p := ⟨b, off, none⟩) hbl).trans d0)
  replace d1 := cell_regrown ((B0.cell (p := ⟨b, off + 1, none⟩) hbl).trans d1)
  replace d2 := cell_regrown ((B0.cell (p := ⟨b, off + 2, none⟩) hbl).trans d2)
  replace d3 := cell_regrown ((B0.cell (p := ⟨b, off + 3, none⟩) hbl).trans d3)
  have a1 := cell_regrown (show w0.cell? ⟨w.heap.size, 1, none⟩ = some (.int .i64 m) from bA.cell 1)
  have a3 := cell_regrown (show w0.cell? ⟨w.heap.size, 3, none⟩ = some (.slice A vs.length c) from bA.cell 3)
  have b3 := cell_regrown (show w0.cell? ⟨w.heap.size + 1, 3, none⟩ = some (.slice (some ⟨b, off, none⟩) 1 c2) from bB.cell 3)
  rcases hk with rfl | rfl
  · have HV := Lib.hid (fit_list (m := m) (s := s) (vs := vs) (n := n) (l := l) (x := x))
    obtain ⟨Q, hQ⟩ : ∃ Q, (decide (vs.length ≤ 8) && vs.all fun v => fitV v x) = Q := ⟨_, rfl⟩
    have HI2 := Lib.hid (HIT.out 8 8 rfl (by decide))
    rw [hQ] at HV
    simp only [hQ] at HI2
    obtain ⟨F, hF⟩ : ∃ F, fitV (.mk 12 m s vs) (.mk 12 n l [x]) = F := ⟨_, rfl⟩
    rw [hF] at HV ⊢
    clear B0 ih hall hvs hts hQ hF hat
    cases hm : (m == 0)
    · have HR := Lib.hid (show F = false by rw [HV.out, HE.out, hm]; rfl)
      go_enter Tryz.func47, Tryz.ntmps47
      go_upto_region 1 with fail
      rw [← hw0]
      clear hw0
      go_upto_region 16 with fail
      refine wp_region_quiet_below (by kernel_rfl) (by kernel_rfl) ?_
      repeat (first | go_big_quiet_step (fail) | quiet_step (fail))
      refine wpQuiet_nil ?_
      intro w6 hw6
      have HB6 := Lib.hid (HB0.out.trans ((below_of_regrown hw6).mono HB0.out.size))
      clear hw6 d0 d1 d2 d3 a1 a3 b3 kA kB
      go_wp2
      go_ret
      exact ⟨ret_eq (by rw [HR.out]; try rfl), HB6.out⟩
    · have HR := Lib.hid (show F = Q by rw [HV.out, HE.out, hm]; rfl)
      go_enter Tryz.func47, Tryz.ntmps47
      go_upto_region 1 with fail
      rw [← hw0]
      clear hw0
      go_upto_region 16 with fail
      refine wp_region_quiet_below (by kernel_rfl) (by kernel_rfl) ?_
      repeat (first | go_big_quiet_step (with_reducible exact Calls.regrown_of (HI2.out _ (below_regrown _ _ _))) | quiet_step (with_reducible exact Calls.regrown_of (HI2.out _ (below_regrown _ _ _))))
      refine wpQuiet_nil ?_
      intro w6 hw6
      have HB6 := Lib.hid (HB0.out.trans ((below_of_regrown hw6).mono HB0.out.size))
      clear hw6 d0 d1 d2 d3 a1 a3 b3 kA kB
      go_wp2
      go_ret
      exact ⟨ret_eq (by rw [HR.out]; try rfl), HB6.out⟩
  · have HV := Lib.hid (fit_option (m := m) (s := s) (vs := vs) (n := n) (l := l) hu)
    obtain ⟨Q, hQ⟩ : ∃ Q, (decide (vs.length ≤ 1) && vs.all fun v => fitV v x) = Q := ⟨_, rfl⟩
    have HI2 := Lib.hid (HIT.out 1 1 rfl (by decide))
    rw [hQ] at HV
    simp only [hQ] at HI2
    obtain ⟨F, hF⟩ : ∃ F, fitV (.mk 13 m s vs) (.mk 13 n l [x]) = F := ⟨_, rfl⟩
    rw [hF] at HV ⊢
    clear B0 ih hall hvs hts hQ hF hat
    cases hm : (m == (vs.length : Int))
    · have HR := Lib.hid (show F = false by rw [HV.out, HE.out, hm]; rfl)
      go_enter Tryz.func47, Tryz.ntmps47
      go_upto_region 1 with fail
      rw [← hw0]
      clear hw0
      go_upto_region 10 with fail
      refine wp_region_quiet_below (by kernel_rfl) (by kernel_rfl) ?_
      repeat (first | go_big_quiet_step (fail) | quiet_step (fail))
      refine wpQuiet_nil ?_
      intro w6 hw6
      have HB6 := Lib.hid (HB0.out.trans ((below_of_regrown hw6).mono HB0.out.size))
      clear hw6 d0 d1 d2 d3 a1 a3 b3 kA kB
      go_wp2
      go_ret
      exact ⟨ret_eq (by rw [HR.out]; try rfl), HB6.out⟩
    · have HR := Lib.hid (show F = Q by rw [HV.out, HE.out, hm]; rfl)
      go_enter Tryz.func47, Tryz.ntmps47
      go_upto_region 1 with fail
      rw [← hw0]
      clear hw0
      go_upto_region 10 with fail
      refine wp_region_quiet_below (by kernel_rfl) (by kernel_rfl) ?_
      repeat (first | go_big_quiet_step (with_reducible exact Calls.regrown_of (HI2.out _ (below_regrown _ _ _))) | quiet_step (with_reducible exact Calls.regrown_of (HI2.out _ (below_regrown _ _ _))))
      refine wpQuiet_nil ?_
      intro w6 hw6
      have HB6 := Lib.hid (HB0.out.trans ((below_of_regrown hw6).mono HB0.out.size))
      clear hw6 d0 d1 d2 d3 a1 a3 b3 kA kB
      go_wp2
      go_ret
      exact ⟨ret_eq (by rw [HR.out]; try rfl), HB6.out⟩
set_option maxHeartbeats 8000000 in
set_option maxRecDepth 20000 in
theorem fitCase_s (k m : Int) (s : ByteArray) (vs : List Va) (n : ByteArray) (l : List ByteArray) (kids : List Ty) (A A1 A2 : Option Addr) (c c1 c2 : Nat) (w : World) (hk : k = 14 ∨ k = 17) (ge : s.toList = []) (hl2 : l.length ≤ 9223372036854775807) (hsh : shape (.mk k n l kids) = true)
    (ih : ∀ x ∈ vs, FitFn 47 anyW x) (hall : ∀ y ∈ kids, Ty.all shape y = true) (hvs : D.At w anyB (rows Va.ds 4 vs) (.slice A vs.length c)) (hts : D.At w anyB (rows Ty.ds 4 kids) (.slice A2 kids.length c2)) :
    Calls Tryz.prog 47 #[.agg #[.int .i64 k, .int .i64 m, .string s, .slice A vs.length c], .agg #[.int .i64 k, .string n, .slice A1 l.length c1, .slice A2 kids.length c2]] w
      fun e w' => e = .returned (.bool (fitV (.mk k m s vs) (.mk k n l kids))) ∧ Below w.heap.size w w' := by
  have HE := Lib.hid (show s.toList.isEmpty = true by rw [ge]; rfl)
  obtain ⟨w0, hw0, B0, bA, bB⟩ := blocks2 w 34 40 [.int .i64 k, .int .i64 m, .string s, .slice A vs.length c] [.int .i64 k, .string n, .slice A1 l.length c1, .slice A2 kids.length c2]
  obtain ⟨-, htn, htc⟩ := rows_bound hts
  unfold maxLen at htc
  have kA := bA.cell
  have kB := bB.cell
  have HB0 := Lib.hid B0
  cases hn : numFits k l.length m
  · have HR := Lib.hid (fit_bad (s := s) (vs := vs) (n := n) (kids := kids) (show k ≠ 11 by omega) hn)
    have HZ := Lib.hid hn
    clear B0 ih hall hvs hts hsh hn
    rcases hk with rfl | rfl
    all_goals
      go_enter Tryz.func47, Tryz.ntmps47
      go_upto_region 1 with fail
      rw [← hw0]
      clear hw0
      go_wp2_with (go_at_call 49; refine (l00In_z (by exact HZ.out) _).mono ?_; rintro e w1 ⟨rfl, rfl⟩)
      go_ret
      exact ⟨ret_eq (by rw [HR.out]; try rfl), HB0.out⟩
  · obtain ⟨h0, x, hx⟩ := case_at hsh hk hn
    have hfc := fit_case (s := s) (vs := vs) (n := n) (l := l) (kids := kids) hk h0 hx hn
    obtain ⟨q, rfl⟩ : ∃ q : Nat, m = q := ⟨m.toNat, by omega⟩
    rw [Int.toNat_natCast] at hx
    have HR := Lib.hid (show fitV (.mk k q s vs) (.mk k n l kids) = caseB vs x by rw [hfc, HE.out, Bool.true_and]; rfl)
    have HZ := Lib.hid hn
    have hql : q < kids.length := (List.getElem?_eq_some_iff.1 hx).1
    have i0 : (0 : Int) ≤ (q : Int) := by omega
    have i1 : (q : Int) < (kids.length : Int) := by omega
    obtain ⟨b, off, u0, u1, u2, u3, e, -, hbl, hat, d0, d1, d2, d3⟩ := rows_at4 Ty.len hts hx
    subst e
    obtain ⟨f0, f1, f2, f3, f4, f5, f6, f7, exx⟩ := Ty.form hat
    simp only [List.cons.injEq, and_true] at exx
    obtain ⟨rfl, rfl, rfl, rfl⟩ := exx
    have HI2 := Lib.hid (fun W (h : Below w0.heap.size w0 W) => l04Case_s vs ih x (hall x (List.mem_of_getElem? hx)) A c _ W ((hvs.below B0).below h) ((hat.below B0).below h))
    obtain ⟨Q, hQ⟩ : ∃ Q, caseB vs x = Q := ⟨_, rfl⟩
    rw [hQ] at HR
    simp only [hQ] at HI2
    obtain ⟨F, hF⟩ : ∃ F, fitV (.mk k q s vs) (.mk k n l kids) = F := ⟨_, rfl⟩
    rw [hF] at HR ⊢
    replace d0 := cell_regrown ((B0.cell (p := ⟨b, off + q * 4, none⟩) hbl).trans d0)
    replace d1 := cell_regrown ((B0.cell (p := ⟨b, off + q * 4 + 1, none⟩) hbl).trans d1)
    replace d2 := cell_regrown ((B0.cell (p := ⟨b, off + q * 4 + 2, none⟩) hbl).trans d2)
    replace d3 := cell_regrown ((B0.cell (p := ⟨b, off + q * 4 + 3, none⟩) hbl).trans d3)
    have a1 := cell_regrown (show w0.cell? ⟨w.heap.size, 1, none⟩ = some (.int .i64 (q : Int)) from bA.cell 1)
    have a3 := cell_regrown (show w0.cell? ⟨w.heap.size, 3, none⟩ = some (.slice A vs.length c) from bA.cell 3)
    have b3 := cell_regrown (show w0.cell? ⟨w.heap.size + 1, 3, none⟩ = some (.slice (some ⟨b, off, none⟩) kids.length c2) from bB.cell 3)
    clear B0 ih hall hvs hts hQ hF hat hsh hn hfc hx h0
    rcases hk with rfl | rfl
    all_goals
      go_enter Tryz.func47, Tryz.ntmps47
      go_upto_region 1 with fail
      rw [← hw0]
      clear hw0
      go_wp2_with (go_at_call 49; refine (l00In_z (by exact HZ.out) _).mono ?_; rintro e w1 ⟨rfl, rfl⟩)
      refine wp_region_quiet_below (by kernel_rfl) (by kernel_rfl) ?_
      repeat (first | go_big_quiet_step (with_reducible exact Calls.regrown_of (HI2.out _ (below_regrown _ _ _))) | quiet_step (with_reducible exact Calls.regrown_of (HI2.out _ (below_regrown _ _ _))))
      refine wpQuiet_nil ?_
      intro w6 hw6
      have HB6 := Lib.hid (HB0.out.trans ((below_of_regrown hw6).mono HB0.out.size))
      clear hw6 d0 d1 d2 d3 a1 a3 b3 kA kB
      go_wp2
      go_ret
      exact ⟨ret_eq (by rw [HR.out]; try rfl), HB6.out⟩
set_option maxHeartbeats 8000000 in
set_option maxRecDepth 20000 in
theorem l04Fits_s (v : Va) : FitFn 47 anyW v := by
  refine Va.ind (fun k m s vs ih => ?_) v
  intro t hall cs cs' w _ hcs hcs'
  obtain ⟨A, c, rfl, hk, hm, hs, hvs⟩ := Va.open_ hcs
  obtain ⟨k', n, l, kids⟩ := t
  obtain ⟨A1, c1, A2, c2, rfl, hk', hn, hl, hkids⟩ := Ty.open_ hcs'
  obtain ⟨-, hln, hlc⟩ := rows_bound hl
  have hl2 : l.length ≤ 9223372036854775807 := by unfold maxLen at hlc; omega
  have hsh := all_shape hall
  by_cases hkk : k = k'
  · subst hkk
    by_cases h11 : k = 11
    · subst h11
      exact fitText_s m s vs n l kids A A1 A2 c c1 c2 w
    · cases he : s.toList.isEmpty
      · have g11 : (k == 11) = false := beq_eq_false_iff_ne.2 h11
        have g11' : (k != 11) = true := by rw [bne, g11]; rfl
        have HV := Lib.hid (fit_text_no (m := m) (vs := vs) (n := n) (l := l) (kids := kids) g11 he)
        have e1 := text_empty he
        clear ih hall hcs hcs' hvs hl hkids hsh h11 hk hk' hm hn hs
        change Calls Tryz.prog 47 #[.agg #[.int .i64 k, .int .i64 m, .string s, .slice A vs.length c], .agg #[.int .i64 k, .string n, .slice A1 l.length c1, .slice A2 kids.length c2]] w _
        go_enter Tryz.func47, Tryz.ntmps47
        go_wp2
        go_ret
        exact ⟨ret_eq (by rw [HV.out]; try rfl), (by repeat (first | exact Below.refl _ _ | refine Below.alloc ?_ (by first | omega | (simp <;> omega)) _))⟩
      · have ge : s.toList = [] := by simpa using he
        by_cases h12 : k = 12 ∨ k = 13
        · obtain ⟨x, rfl, hu⟩ := fit_one hsh.1 h12
          exact fitItems_s k m s vs n l x A A1 A2 c c1 c2 w h12 ge ih (hsh.2 x (by simp)) hu hvs hkids
        · by_cases h14 : k = 14 ∨ k = 17
          · exact fitCase_s k m s vs n l kids A A1 A2 c c1 c2 w h14 ge hl2 hsh.1 ih hsh.2 hvs hkids
          · by_cases h15 : k = 15 ∨ k = 16
            · exact fitAll_s k m s vs n l kids A A1 A2 c c1 c2 w h15 ge ih hsh.2 hvs hkids
            · have hl19 : l.length ≤ 16 ∨ k ≠ 19 := by
                by_cases h : k = 19
                · exact .inl (fit_labels hsh.1 (.inr (.inr (.inr h)))).2
                · exact .inr h
              exact fitPlain_s k m s vs n l kids A A1 A2 c c1 c2 w (kind_in hsh.1) (by omega) hl19 hl2 ge
  · have HV := Lib.hid (fitV_kind (m' := m) (s := s) (vs := vs) (n := n) (l := l) (kids := kids) hkk)
    have g1 : (k == k') = false := beq_eq_false_iff_ne.2 hkk
    have g1' : (k != k') = true := by rw [bne, g1]; rfl
    clear hcs hcs' hk hm hs hvs hk' hn hl hkids ih hall hsh hkk
    change Calls Tryz.prog 47 #[.agg #[.int .i64 k, .int .i64 m, .string s, .slice A vs.length c], .agg #[.int .i64 k', .string n, .slice A1 l.length c1, .slice A2 kids.length c2]] w _
    go_enter Tryz.func47, Tryz.ntmps47
    go_wp2
    go_ret
    exact ⟨ret_eq (by rw [HV.out]; try rfl), (by repeat (first | exact Below.refl _ _ | refine Below.alloc ?_ (by first | omega | (simp <;> omega)) _))⟩
end Go.Proofs.YtcpadaelgdmipaaGreatDoor
namespace Go.Proofs.YtcpadaelgdmipaaGreatDoor
open Go.RowKit

theorem tyOk_all {x : Ty} (h : tyOk x = true) : Ty.all shape x = true := by
  unfold tyOk at h
  rw [Bool.and_eq_true, Bool.and_eq_true] at h
  exact h.2.2
set_option maxHeartbeats 2000000 in
set_option maxRecDepth 20000 in
theorem fitsB_s (v : Va) (t : Ty) (cs cs' : List Value) (w : World) (_hp : D.totals t.ds ≤ 1048576) (hcs : D.Ats w anyB v.ds cs) (hcs' : D.Ats w anyB t.ds cs') :
    Calls Tryz.prog 24 #[.agg cs.toArray, .agg cs'.toArray] w fun e w' => e = .returned (.bool (fitsB v t)) ∧ Below w.heap.size w w' := by
  have HV := Lib.hid hcs
  have HT := Lib.hid hcs'
  obtain ⟨k0, k1, k2, k3, k4, k5, rfl⟩ := Va.form hcs
  obtain ⟨q0, q1, q2, q3, q4, q5, q6, q7, rfl⟩ := Ty.form hcs'
  obtain ⟨w0, hw0, B0, bA, bB⟩ := blocks2 w 34 40 [.int .i64 k0, .int .i64 k1, .string k2, .slice k3 k4 k5] [.int .i64 q0, .string q1, .slice q2 q3 q4, .slice q5 q6 q7]
  have HTO := Lib.hid (fun W h => typeOk_s t [.int .i64 q0, .string q1, .slice q2 q3 q4, .slice q5 q6 q7] W h)
  have HFI := Lib.hid (fun (h : tyOk t = true) W (hb : Below w.heap.size w W) => l04Fits_s v t (tyOk_all h) _ _ W trivial (HV.out.below hb) (HT.out.below hb))
  have kA := bA.cell
  have kB := bB.cell
  have HB0 := Lib.hid B0
  clear B0 hcs hcs'
  cases hk : tyOk t
  all_goals
    rw [hk] at HTO
    obtain ⟨F, hF⟩ : ∃ F, fitsB v t = F := ⟨_, rfl⟩
    rw [hF]
    have HF := Lib.hid hF
    clear hF
  · have HR := Lib.hid (show F = false by rw [← HF.out, fitsB, hk, Bool.false_and])
    clear hk HFI
    change Calls Tryz.prog 24 #[.agg #[.int .i64 k0, .int .i64 k1, .string k2, .slice k3 k4 k5], .agg #[.int .i64 q0, .string q1, .slice q2 q3 q4, .slice q5 q6 q7]] w _
    go_enter Tryz.func24, Tryz.ntmps24
    go_upto_region 1 with fail
    rw [← hw0]
    clear hw0
    go_wp2_with fail
    refine (HTO.out _ (HT.out.below HB0.out)).mono ?_
    rintro e w1 ⟨rfl, hb1⟩
    have HB1 := Lib.hid (HB0.out.trans (hb1.mono HB0.out.size))
    clear hb1 kA kB
    go_wp2
    go_ret
    exact ⟨ret_eq (by rw [HR.out]; try rfl), HB1.out⟩
  · have HR := Lib.hid (show F = fitV v t by rw [← HF.out, fitsB, hk, Bool.true_and])
    have HFJ := Lib.hid (HFI.out hk)
    clear hk HFI
    obtain ⟨Z, hZ⟩ : ∃ Z, fitV v t = Z := ⟨_, rfl⟩
    rw [hZ] at HR
    simp only [hZ] at HFJ
    clear hZ
    change Calls Tryz.prog 24 #[.agg #[.int .i64 k0, .int .i64 k1, .string k2, .slice k3 k4 k5], .agg #[.int .i64 q0, .string q1, .slice q2 q3 q4, .slice q5 q6 q7]] w _
    go_enter Tryz.func24, Tryz.ntmps24
    go_upto_region 1 with fail
    rw [← hw0]
    clear hw0
    go_wp2_with fail
    refine (HTO.out _ (HT.out.below HB0.out)).mono ?_
    rintro e w1 ⟨rfl, hb1⟩
    have HB1 := Lib.hid (HB0.out.trans (hb1.mono HB0.out.size))
    clear kA kB
    have bA1 := bA.call hb1
    have bB1 := bB.call hb1
    have kA := bA1.cell
    have kB := bB1.cell
    clear hb1
    go_wp2_with fail
    refine (HFJ.out _ HB1.out).mono ?_
    rintro e w2 ⟨rfl, hb2⟩
    have HB2 := Lib.hid (HB1.out.trans (hb2.mono HB1.out.size))
    clear hb2 kA kB
    go_wp2
    go_ret
    exact ⟨ret_eq (by rw [HR.out]; try rfl), HB2.out⟩
set_option maxHeartbeats 2000000 in
set_option maxRecDepth 20000 in
theorem fitsB_i (v : Va) (t : Ty) (cs cs' : List Value) (w : World) (ht : Tabs w) (_hp : D.totals t.ds ≤ 1048576) (hcs : D.Ats w anyB v.ds cs) (hcs' : D.Ats w anyB t.ds cs') :
    Calls Tryz.prog 31 #[.agg cs.toArray, .agg cs'.toArray] w fun e w' => e = .returned (.bool (fitsB v t)) ∧ Below w.heap.size w w' := by
  have HTB := Lib.hid ht
  clear ht
  have HV := Lib.hid hcs
  have HT := Lib.hid hcs'
  obtain ⟨k0, k1, k2, k3, k4, k5, rfl⟩ := Va.form hcs
  obtain ⟨q0, q1, q2, q3, q4, q5, q6, q7, rfl⟩ := Ty.form hcs'
  obtain ⟨w0, hw0, B0, bA, bB⟩ := blocks2 w 34 40 [.int .i64 k0, .int .i64 k1, .string k2, .slice k3 k4 k5] [.int .i64 q0, .string q1, .slice q2 q3 q4, .slice q5 q6 q7]
  have HTO := Lib.hid (fun W h => typeOk_i t [.int .i64 q0, .string q1, .slice q2 q3 q4, .slice q5 q6 q7] W h (by have := Ty.parts_total t; omega))
  have HFI := Lib.hid (fun (h : tyOk t = true) W (hb : Below w.heap.size w W) => fits_i v t (tyOk_all h) _ _ W (tabs_below HTB.out hb) (HV.out.below hb) (HT.out.below hb))
  have kA := bA.cell
  have kB := bB.cell
  have HB0 := Lib.hid B0
  clear B0 hcs hcs'
  cases hk : tyOk t
  all_goals
    rw [hk] at HTO
    obtain ⟨F, hF⟩ : ∃ F, fitsB v t = F := ⟨_, rfl⟩
    rw [hF]
    have HF := Lib.hid hF
    clear hF
  · have HR := Lib.hid (show F = false by rw [← HF.out, fitsB, hk, Bool.false_and])
    clear hk HFI
    change Calls Tryz.prog 31 #[.agg #[.int .i64 k0, .int .i64 k1, .string k2, .slice k3 k4 k5], .agg #[.int .i64 q0, .string q1, .slice q2 q3 q4, .slice q5 q6 q7]] w _
    go_enter Tryz.func31, Tryz.ntmps31
    go_upto_region 1 with fail
    rw [← hw0]
    clear hw0
    go_wp2_with fail
    refine (HTO.out _ (HT.out.below HB0.out)).mono ?_
    rintro e w1 ⟨rfl, hb1⟩
    have HB1 := Lib.hid (HB0.out.trans (hb1.mono HB0.out.size))
    clear hb1 kA kB
    go_wp2
    go_ret
    exact ⟨ret_eq (by rw [HR.out]; try rfl), HB1.out⟩
  · have HR := Lib.hid (show F = fitV v t by rw [← HF.out, fitsB, hk, Bool.true_and])
    have HFJ := Lib.hid (HFI.out hk)
    clear hk HFI
    obtain ⟨Z, hZ⟩ : ∃ Z, fitV v t = Z := ⟨_, rfl⟩
    rw [hZ] at HR
    simp only [hZ] at HFJ
    clear hZ
    change Calls Tryz.prog 31 #[.agg #[.int .i64 k0, .int .i64 k1, .string k2, .slice k3 k4 k5], .agg #[.int .i64 q0, .string q1, .slice q2 q3 q4, .slice q5 q6 q7]] w _
    go_enter Tryz.func31, Tryz.ntmps31
    go_upto_region 1 with fail
    rw [← hw0]
    clear hw0
    go_wp2_with fail
    refine (HTO.out _ (HT.out.below HB0.out)).mono ?_
    rintro e w1 ⟨rfl, hb1⟩
    have HB1 := Lib.hid (HB0.out.trans (hb1.mono HB0.out.size))
    clear kA kB
    have bA1 := bA.call hb1
    have bB1 := bB.call hb1
    have kA := bA1.cell
    have kB := bB1.cell
    clear hb1
    go_wp2_with fail
    refine (HFJ.out _ HB1.out).mono ?_
    rintro e w2 ⟨rfl, hb2⟩
    have HB2 := Lib.hid (HB1.out.trans (hb2.mono HB1.out.size))
    clear hb2 kA kB
    go_wp2
    go_ret
    exact ⟨ret_eq (by rw [HR.out]; try rfl), HB2.out⟩
end Go.Proofs.YtcpadaelgdmipaaGreatDoor
