/- Slices of texts: the law's deep copy, in memory of its own. Type: the law's deep copy, each slice in memory of its own. Param: the law's deep copy, each slice in memory of its own. FuncType: the law's deep copy, each slice in memory of its own. Func: the law's deep copy, each slice in memory of its own. Face: the law's deep copy, each slice in memory of its own. -/
import Derived.Test.YtpfkhojhkjaafaaGreatDoorGStrs
import Derived.Test.YtpfkhojhkjaafaaGreatDoorSepIn
import Derived.Test.YtpfkhojhkjaafaaGreatDoorPkG
namespace Go.Proofs.YtpfkhojhkjaafaaGreatDoor
open Go.RowKit

set_option maxHeartbeats 1000000 in
theorem toStringS_p (l : List ByteArray) (v : Value) (w : World) (hv : D.At w anyB (strs l) v) (ht : (strs l).total ≤ 1048576) : Calls Tryz.prog 36 #[v] w (RetS (strs l) w) := by
  obtain ⟨A, cap, rfl, hn, hc⟩ := rows_form strD_length hv
  unfold maxLen at hc
  rw [strs, rows_total] at ht
  have HV := Lib.hid hv
  obtain ⟨i0, hi, hz0, hz1, hz2⟩ := info_parts info_str
  obtain ⟨cur, hcs, hmk⟩ := make_fact (P := Tryz.prog) Tryz.underlying22 hi hz0 hz1 hz2 l.length (by omega) (by omega) w
  have HC := Lib.hid (FilledP.start w cur 9 1 l.length hcs)
  clear hv hi hz0 hz1 hz2 hcs
  go_enter Tryz.func36, Tryz.ntmps36
  go_wp2
  go_loopw [4] (fun i wr => ∃ k : Nat, k ≤ l.length ∧ i = .int .i64 k ∧ FilledP w wr w.heap.size 9 1 l.length k ((l.take k).flatMap strD)) (fun i _ => l.length - (intOf i).toNat)
  case atStart => exact ⟨0, Nat.zero_le _, rfl, HC.out⟩
  case round =>
    obtain ⟨k, hk, rfl, hf⟩ := hrel
    have hb := hf.below
    by_cases hlt : k < l.length
    · obtain ⟨x, hx⟩ : ∃ x, l[k]? = some x := ⟨l[k], List.getElem?_eq_getElem hlt⟩
      obtain ⟨b, off, u0, rfl, -, hbl, hat, c0⟩ := rows_at1 strD_length HV.out hx
      replace c0 := (hb.cell (p := ⟨b, off + k, none⟩) hbl).trans c0
      obtain ⟨rfl, hxs⟩ := str_open hat
      have HD := Lib.hid (take_next (f := strD) hx)
      clear hx
      obtain ⟨o0, p0, q0⟩ := hf.cells (Below.refl _ _) k (by omega)
      have hst := hf.store (Below.refl _ _) hlt rfl (es := strD x) (SepsIn.cons (SepIn.str hxs) (SepsIn.nil (Nat.le_refl _)))
      rw [Nat.mul_one] at hst
      have HF := Lib.hid hst
      clear hf hst hat hxs
      go_wp2
      go_roundw
      case rel => exact ⟨k + 1, by omega, by go_num, by rw [HD.out]; exact HF.out⟩
      case measure => simp [intOf]; omega
    · obtain rfl : k = l.length := by omega
      have hd := hf.done (by unfold maxLen; omega) (fun h => by rw [List.take_of_length_le (Nat.le_refl _), List.eq_nil_of_length_eq_zero h]; rfl)
      have HF := Lib.hid (And.intro hd hb)
      clear hd hb hf
      go_wp2
      go_ret
      refine ⟨_, rfl, ?_, HF.out.2⟩
      have := HF.out.1
      rw [List.take_length] at this
      exact this
end Go.Proofs.YtpfkhojhkjaafaaGreatDoor
namespace Go.Proofs.YtpfkhojhkjaafaaGreatDoor
open Go.RowKit

def ToPType (x : Ty) : Prop := ∀ (cs : List Value) (w : World), D.Ats w anyB x.ds cs → D.totals x.ds ≤ 1048576 → Calls Tryz.prog 19 #[.agg cs.toArray] w (RetSs x.ds w)

set_option maxHeartbeats 1000000 in
theorem toTypeS_p (l : List Ty) (hl : ∀ x ∈ l, ToPType x) (v : Value) (w : World) (hv : D.At w anyB (rows Ty.ds 4 l) v) (ht : (rows Ty.ds 4 l).total ≤ 1048576) :
    Calls Tryz.prog 56 #[v] w (RetS (rows Ty.ds 4 l) w) := by
  obtain ⟨A, cap, rfl, hn, hc⟩ := rows_form Ty.len hv
  unfold maxLen at hc
  rw [rows_total] at ht
  have HV := Lib.hid hv
  have HL := Lib.hid hl
  obtain ⟨i0, hi, hz0, hz1, hz2⟩ := info_parts info_iType
  obtain ⟨cur, hcs, hmk⟩ := make_fact (P := Tryz.prog) Tryz.underlying28 hi hz0 hz1 hz2 l.length (by omega) (by omega) w
  have HC := Lib.hid (FilledP.start w cur 30 4 l.length hcs)
  clear hv hl hi hz0 hz1 hz2 hcs
  go_enter Tryz.func56, Tryz.ntmps56
  go_wp2
  go_loopw [4] (fun i wr => ∃ k : Nat, k ≤ l.length ∧ i = .int .i64 k ∧ FilledP w wr w.heap.size 30 4 l.length k ((l.take k).flatMap Ty.ds)) (fun i _ => l.length - (intOf i).toNat)
  case atStart => exact ⟨0, Nat.zero_le _, rfl, HC.out⟩
  case round =>
    obtain ⟨k, hk, rfl, hf⟩ := hrel
    have hb := hf.below
    by_cases hlt : k < l.length
    · obtain ⟨x, hx⟩ : ∃ x, l[k]? = some x := ⟨l[k], List.getElem?_eq_getElem hlt⟩
      obtain ⟨b, off, u0, u1, u2, u3, rfl, -, hbl, hat, c0, c1, c2, c3⟩ := rows_at4 Ty.len HV.out hx
      replace c0 := (hb.cell (p := ⟨b, off + k * 4, none⟩) hbl).trans c0
      replace c1 := (hb.cell (p := ⟨b, off + k * 4 + 1, none⟩) hbl).trans c1
      replace c2 := (hb.cell (p := ⟨b, off + k * 4 + 2, none⟩) hbl).trans c2
      replace c3 := (hb.cell (p := ⟨b, off + k * 4 + 3, none⟩) hbl).trans c3
      have hxm : x ∈ l := List.mem_of_getElem? hx
      have hxt := totals_mem (f := Ty.ds) hxm
      have HD := Lib.hid (take_next (f := Ty.ds) hx)
      clear hx
      go_wp2_with fail
      refine (HL.out x hxm _ _ (hat.below hb) (by omega)).mono ?_
      rintro e w1 ⟨cs, rfl, hcs, hb1⟩
      obtain ⟨F0, F1, F2A, F2m, F2c, F3A, F3m, F3c, rfl⟩ := Ty.form hcs.ats
      obtain ⟨o0, p0, q0⟩ := hf.cells hb1 (k * 4) (by omega)
      obtain ⟨o1, p1, q1⟩ := hf.cells hb1 (k * 4 + 1) (by omega)
      obtain ⟨o2, p2, q2⟩ := hf.cells hb1 (k * 4 + 2) (by omega)
      obtain ⟨o3, p3, q3⟩ := hf.cells hb1 (k * 4 + 3) (by omega)
      have HF := Lib.hid (hf.store hb1 hlt rfl hcs)
      clear hcs hb1 c0 c1 c2 c3 hf hb
      go_wp2
      go_roundw
      case rel => exact ⟨k + 1, by omega, by go_num, by rw [HD.out]; exact HF.out⟩
      case measure => simp [intOf]; omega
    · obtain rfl : k = l.length := by omega
      have hd := hf.done (by unfold maxLen; omega) (fun h => by rw [List.take_of_length_le (Nat.le_refl _), List.eq_nil_of_length_eq_zero h]; rfl)
      have HF := Lib.hid (And.intro hd hb)
      clear hd hb hf
      go_wp2
      go_ret
      refine ⟨_, rfl, ?_, HF.out.2⟩
      have := HF.out.1
      rw [List.take_length] at this
      exact this.weaken (Nat.le_refl _) (Nat.le_refl _)

set_option maxHeartbeats 1000000 in
theorem toType_p (x : Ty) : ToPType x := by
  refine Ty.ind (fun k n l kids ih => ?_) x
  intro cs w hcs htot
  obtain ⟨AA, Ac, AA', Ac', rfl, iA0, zA1, sA2, sA3⟩ := Ty.open_ hcs
  have hT : D.totals (Ty.mk k n l kids).ds = n.size + (strs l).total + (rows Ty.ds 4 kids).total := by simp [Ty.ds_eq, D.totals, D.total] <;> omega
  rw [hT] at htot
  have IH := Lib.hid ih
  have H2 := Lib.hid sA2
  have H3 := Lib.hid sA3
  have KiA0 := Lib.hid iA0
  have KzA1 := Lib.hid zA1
  clear hT ih sA2 sA3 iA0 zA1
  go_enter Tryz.func19, Tryz.ntmps19
  go_wp2_with fail
  refine (toStringS_p l _ _ (H2.out.below (by repeat (first | exact Below.refl _ _ | refine Below.alloc ?_ (by first | omega | (simp <;> omega)) _))) (by omega)).mono ?_
  rintro e w1 ⟨r1, rfl, q1, hb1⟩
  obtain ⟨R1A, R1c, rfl, -, -⟩ := rows_form strD_length q1.at_
  obtain ⟨B1, bA, bB, bC⟩ := box3 (cA := [_, _, _, _]) (cB := [_, _, _, _]) (cC := [_, _, _, _]) hb1
  replace q1 := q1.weaken (lo' := w.heap.size + 3) (hi' := w1.heap.size) (by simp) (Nat.le_refl _)
  clear hb1
  have c := bA.cell
  have f := bC.cell
  have fz := bC.frozen
  have zz := bC.lt
  have Q1 := Lib.hid q1
  clear q1
  have q1 := Q1.out
  clear Q1
  go_wp2_with fail
  refine (toTypeS_p kids IH.out _ _ (H3.out.below (by repeat (first | exact B1 | refine Below.setCell ?_ (by simp <;> omega) _))) (by omega)).mono ?_
  rintro e w2 ⟨r2, rfl, q2, hb2⟩
  obtain ⟨R2A, R2c, rfl, -, -⟩ := rows_form Ty.len q2.at_
  have hsz := hb2.size
  simp at hsz
  have B2 : Below w.heap.size w w2 := Below.trans (by repeat (first | exact B1 | refine Below.setCell ?_ (by simp <;> omega) _)) (hb2.mono (by have := B1.size; simp; omega))
  have lC := bC.lt
  replace bA := (Box.set_ne (bA) (by simp <;> omega) (.slice R1A l.length R1c)).call hb2
  replace bB := (Box.set_ne (bB) (by simp <;> omega) (.slice R1A l.length R1c)).call hb2
  replace bC := ((bC.set 2 (.slice R1A l.length R1c))).call hb2
  simp only [List.set] at bC
  replace q1 := (SepIn.set (q1) (.inl (by simp <;> omega)) (.slice R1A l.length R1c)).below hb2 (by simp <;> omega)
  replace q2 := q2.weaken (lo' := w1.heap.size) (hi' := w2.heap.size) (by simp) (Nat.le_refl _)
  have hsz2 : w1.heap.size ≤ w2.heap.size := hsz
  clear hsz lC
  clear hb2 c f fz zz
  clear B1
  have c := bA.cell
  have f := bC.cell
  have fz := bC.frozen
  have zz := bC.lt
  have Q1 := Lib.hid q1
  clear q1
  have Q2 := Lib.hid q2
  clear q2
  have b := bB.cell
  have bz := bB.frozen
  have lfin := bC.lt
  go_wp2
  refine bodyPost_ret (v := .agg #[.int .i64 k, .string n, .slice R1A l.length R1c, .slice R2A kids.length R2c]) (by simp [results, Tryz.results19, go_sem, b]) rfl ⟨[.int .i64 k, .string n, .slice R1A l.length R1c, .slice R2A kids.length R2c], rfl, ?_, ?_⟩
  · refine SepsIn.weaken (lo := w.heap.size + 3) (hi := w2.heap.size) ?_ (by omega) (by simp)
    refine SepsIn.keep (w := w2) ?_ (fun b hb1 hb2 => ?_)
    · rw [Ty.ds_eq]
      exact (SepsIn.cons (SepIn.int KiA0.out) (SepsIn.cons (SepIn.str KzA1.out) (SepsIn.cons Q1.out (SepsIn.cons Q2.out (SepsIn.nil (Nat.le_refl _))))))
    · repeat (rw [Below.heap_setCell _ _ _ _ (by simp; omega)])
  · repeat (refine Below.setCell ?_ (by simp <;> omega) _)
    exact B2

end Go.Proofs.YtpfkhojhkjaafaaGreatDoor
namespace Go.Proofs.YtpfkhojhkjaafaaGreatDoor
open Go.RowKit

def ToPParam (x : Pa) : Prop := ∀ (cs : List Value) (w : World), D.Ats w anyB x.ds cs → D.totals x.ds ≤ 1048576 → Calls Tryz.prog 187 #[.agg cs.toArray] w (RetSs x.ds w)

set_option maxHeartbeats 1000000 in
theorem toParam_p (x : Pa) : ToPParam x := by
  intro cs w hcs htot
  obtain ⟨A0, A1, A2A, A2m, A2c, A3A, A3m, A3c, rfl, zA0, sA1⟩ := Pa.open_ hcs
  have hT : D.totals x.ds = x.name.size + D.totals x.ty.ds := by simp [Pa.ds, D.totals, D.total]
  rw [hT] at htot
  have H1 := Lib.hid sA1
  have KzA0 := Lib.hid zA0
  clear hT sA1 zA0
  go_enter Tryz.func187, Tryz.ntmps187
  go_wp2_with fail
  refine (toType_p x.ty _ _ (H1.out.below (by repeat (first | exact Below.refl _ _ | refine Below.alloc ?_ (by first | omega | (simp <;> omega)) _))) (by omega)).mono ?_
  rintro e w1 ⟨r1, rfl, q1, hb1⟩
  obtain ⟨R10, R11, R12A, R12m, R12c, R13A, R13m, R13c, rfl⟩ := Ty.form q1.ats
  obtain ⟨B1, bA, bB, bC⟩ := box3 (cA := [_, _, _, _, _]) (cB := [_, _, _, _, _]) (cC := [_, _, _, _, _]) hb1
  replace q1 := q1.weaken (lo' := w.heap.size + 3) (hi' := w1.heap.size) (by simp) (Nat.le_refl _)
  clear hb1
  have c := bA.cell
  have f := bC.cell
  have fz := bC.frozen
  have zz := bC.lt
  have Q1 := Lib.hid q1
  clear q1
  have b := bB.cell
  have bz := bB.frozen
  have lfin := bC.lt
  go_wp2
  refine bodyPost_ret (v := .agg #[.string x.name, .int .i64 R10, .string R11, .slice R12A R12m R12c, .slice R13A R13m R13c]) (by simp [results, Tryz.results187, go_sem, b]) rfl ⟨[.string x.name, .int .i64 R10, .string R11, .slice R12A R12m R12c, .slice R13A R13m R13c], rfl, ?_, ?_⟩
  · refine SepsIn.weaken (lo := w.heap.size + 3) (hi := w1.heap.size) ?_ (by omega) (by simp)
    refine SepsIn.keep (w := w1) ?_ (fun b hb1 hb2 => ?_)
    · exact (SepsIn.cons (SepIn.str KzA0.out) Q1.out)
    · repeat (rw [Below.heap_setCell _ _ _ _ (by simp; omega)])
  · repeat (refine Below.setCell ?_ (by simp <;> omega) _)
    exact B1

set_option maxHeartbeats 1000000 in
theorem toParamS_p (l : List Pa) (hl : ∀ x ∈ l, ToPParam x) (v : Value) (w : World) (hv : D.At w anyB (rows Pa.ds 5 l) v) (ht : (rows Pa.ds 5 l).total ≤ 1048576) :
    Calls Tryz.prog 163 #[v] w (RetS (rows Pa.ds 5 l) w) := by
  obtain ⟨A, cap, rfl, hn, hc⟩ := rows_form Pa.len hv
  unfold maxLen at hc
  rw [rows_total] at ht
  have HV := Lib.hid hv
  have HL := Lib.hid hl
  obtain ⟨i0, hi, hz0, hz1, hz2⟩ := info_parts info_iParam
  obtain ⟨cur, hcs, hmk⟩ := make_fact (P := Tryz.prog) Tryz.underlying27 hi hz0 hz1 hz2 l.length (by omega) (by omega) w
  have HC := Lib.hid (FilledP.start w cur 113 5 l.length hcs)
  clear hv hl hi hz0 hz1 hz2 hcs
  go_enter Tryz.func163, Tryz.ntmps163
  go_wp2
  go_loopw [4] (fun i wr => ∃ k : Nat, k ≤ l.length ∧ i = .int .i64 k ∧ FilledP w wr w.heap.size 113 5 l.length k ((l.take k).flatMap Pa.ds)) (fun i _ => l.length - (intOf i).toNat)
  case atStart => exact ⟨0, Nat.zero_le _, rfl, HC.out⟩
  case round =>
    obtain ⟨k, hk, rfl, hf⟩ := hrel
    have hb := hf.below
    by_cases hlt : k < l.length
    · obtain ⟨x, hx⟩ : ∃ x, l[k]? = some x := ⟨l[k], List.getElem?_eq_getElem hlt⟩
      obtain ⟨b, off, u0, u1, u2, u3, u4, rfl, -, hbl, hat, c0, c1, c2, c3, c4⟩ := rows_at5 Pa.len HV.out hx
      replace c0 := (hb.cell (p := ⟨b, off + k * 5, none⟩) hbl).trans c0
      replace c1 := (hb.cell (p := ⟨b, off + k * 5 + 1, none⟩) hbl).trans c1
      replace c2 := (hb.cell (p := ⟨b, off + k * 5 + 2, none⟩) hbl).trans c2
      replace c3 := (hb.cell (p := ⟨b, off + k * 5 + 3, none⟩) hbl).trans c3
      replace c4 := (hb.cell (p := ⟨b, off + k * 5 + 4, none⟩) hbl).trans c4
      have hxm : x ∈ l := List.mem_of_getElem? hx
      have hxt := totals_mem (f := Pa.ds) hxm
      have HD := Lib.hid (take_next (f := Pa.ds) hx)
      clear hx
      go_wp2_with fail
      refine (HL.out x hxm _ _ (hat.below hb) (by omega)).mono ?_
      rintro e w1 ⟨cs, rfl, hcs, hb1⟩
      obtain ⟨F0, F1, F2, F3A, F3m, F3c, F4A, F4m, F4c, rfl⟩ := Pa.form hcs.ats
      obtain ⟨o0, p0, q0⟩ := hf.cells hb1 (k * 5) (by omega)
      obtain ⟨o1, p1, q1⟩ := hf.cells hb1 (k * 5 + 1) (by omega)
      obtain ⟨o2, p2, q2⟩ := hf.cells hb1 (k * 5 + 2) (by omega)
      obtain ⟨o3, p3, q3⟩ := hf.cells hb1 (k * 5 + 3) (by omega)
      obtain ⟨o4, p4, q4⟩ := hf.cells hb1 (k * 5 + 4) (by omega)
      have HF := Lib.hid (hf.store hb1 hlt rfl hcs)
      clear hcs hb1 c0 c1 c2 c3 c4 hf hb
      go_wp2
      go_roundw
      case rel => exact ⟨k + 1, by omega, by go_num, by rw [HD.out]; exact HF.out⟩
      case measure => simp [intOf]; omega
    · obtain rfl : k = l.length := by omega
      have hd := hf.done (by unfold maxLen; omega) (fun h => by rw [List.take_of_length_le (Nat.le_refl _), List.eq_nil_of_length_eq_zero h]; rfl)
      have HF := Lib.hid (And.intro hd hb)
      clear hd hb hf
      go_wp2
      go_ret
      refine ⟨_, rfl, ?_, HF.out.2⟩
      have := HF.out.1
      rw [List.take_length] at this
      exact this.weaken (Nat.le_refl _) (Nat.le_refl _)

end Go.Proofs.YtpfkhojhkjaafaaGreatDoor
namespace Go.Proofs.YtpfkhojhkjaafaaGreatDoor
open Go.RowKit

def ToPFuncType (x : Fn) : Prop := ∀ (cs : List Value) (w : World), D.Ats w anyB x.ds cs → D.totals x.ds ≤ 1048576 → Calls Tryz.prog 128 #[.agg cs.toArray] w (RetSs x.ds w)

set_option maxHeartbeats 1000000 in
theorem toFuncType_p (x : Fn) : ToPFuncType x := by
  intro cs w hcs htot
  obtain ⟨AB, Ad, A0, A1, A2A, A2m, A2c, A3A, A3m, A3c, rfl, sA0, sA1⟩ := Fn.open_ hcs
  have hT : D.totals x.ds = (rows Pa.ds 5 x.params).total + D.totals x.res.ds := by simp [Fn.ds, D.totals, D.total, D.totals_append] <;> omega
  rw [hT] at htot
  have H0 := Lib.hid sA0
  have H1 := Lib.hid sA1
  clear hT sA0 sA1
  go_enter Tryz.func128, Tryz.ntmps128
  go_wp2_with fail
  refine (toParamS_p x.params (fun x _ => toParam_p x) _ _ (H0.out.below (by repeat (first | exact Below.refl _ _ | refine Below.alloc ?_ (by first | omega | (simp <;> omega)) _))) (by omega)).mono ?_
  rintro e w1 ⟨r1, rfl, q1, hb1⟩
  obtain ⟨R1A, R1c, rfl, -, -⟩ := rows_form Pa.len q1.at_
  obtain ⟨B1, bA, bB, bC⟩ := box3 (cA := [_, _, _, _, _, _]) (cB := [_, _, _, _, _, _]) (cC := [_, _, _, _, _, _]) hb1
  replace q1 := q1.weaken (lo' := w.heap.size + 3) (hi' := w1.heap.size) (by simp) (Nat.le_refl _)
  clear hb1
  have c := bA.cell
  have f := bC.cell
  have fz := bC.frozen
  have zz := bC.lt
  have Q1 := Lib.hid q1
  clear q1
  have q1 := Q1.out
  clear Q1
  go_wp2_with fail
  refine (toType_p x.res _ _ (H1.out.below (by repeat (first | exact B1 | refine Below.setCell ?_ (by simp <;> omega) _))) (by omega)).mono ?_
  rintro e w2 ⟨r2, rfl, q2, hb2⟩
  obtain ⟨R20, R21, R22A, R22m, R22c, R23A, R23m, R23c, rfl⟩ := Ty.form q2.ats
  have hsz := hb2.size
  simp at hsz
  have B2 : Below w.heap.size w w2 := Below.trans (by repeat (first | exact B1 | refine Below.setCell ?_ (by simp <;> omega) _)) (hb2.mono (by have := B1.size; simp; omega))
  have lC := bC.lt
  replace bA := (Box.set_ne (bA) (by simp <;> omega) (.slice R1A x.params.length R1c)).call hb2
  replace bB := (Box.set_ne (bB) (by simp <;> omega) (.slice R1A x.params.length R1c)).call hb2
  replace bC := ((bC.set 0 (.slice R1A x.params.length R1c))).call hb2
  simp only [List.set] at bC
  replace q1 := (SepIn.set (q1) (.inl (by simp <;> omega)) (.slice R1A x.params.length R1c)).below hb2 (by simp <;> omega)
  replace q2 := q2.weaken (lo' := w1.heap.size) (hi' := w2.heap.size) (by simp) (Nat.le_refl _)
  have hsz2 : w1.heap.size ≤ w2.heap.size := hsz
  clear hsz lC
  clear hb2 c f fz zz
  clear B1
  have c := bA.cell
  have f := bC.cell
  have fz := bC.frozen
  have zz := bC.lt
  have Q1 := Lib.hid q1
  clear q1
  have Q2 := Lib.hid q2
  clear q2
  have b := bB.cell
  have bz := bB.frozen
  have lfin := bC.lt
  go_wp2
  refine bodyPost_ret (v := .agg #[.slice R1A x.params.length R1c, .int .i64 R20, .string R21, .slice R22A R22m R22c, .slice R23A R23m R23c, .bool x.async]) (by simp [results, Tryz.results128, go_sem, b]) rfl ⟨[.slice R1A x.params.length R1c, .int .i64 R20, .string R21, .slice R22A R22m R22c, .slice R23A R23m R23c, .bool x.async], rfl, ?_, ?_⟩
  · refine SepsIn.weaken (lo := w.heap.size + 3) (hi := w2.heap.size) ?_ (by omega) (by simp)
    refine SepsIn.keep (w := w2) ?_ (fun b hb1 hb2 => ?_)
    · exact (SepsIn.cons Q1.out (SepsIn.append Q2.out (SepsIn.cons SepIn.bool (SepsIn.nil (Nat.le_refl _)))))
    · repeat (rw [Below.heap_setCell _ _ _ _ (by simp; omega)])
  · repeat (refine Below.setCell ?_ (by simp <;> omega) _)
    exact B2

end Go.Proofs.YtpfkhojhkjaafaaGreatDoor
namespace Go.Proofs.YtpfkhojhkjaafaaGreatDoor
open Go.RowKit

def ToPFunc (x : Fu) : Prop := ∀ (cs : List Value) (w : World), D.Ats w anyB x.ds cs → D.totals x.ds ≤ 1048576 → Calls Tryz.prog 76 #[.agg cs.toArray] w (RetSs x.ds w)

set_option maxHeartbeats 1000000 in
theorem toFunc_p (x : Fu) : ToPFunc x := by
  intro cs w hcs htot
  obtain ⟨A0A, A0m, A0c, A1, A2, A3A, A3m, A3c, A4A, A4m, A4c, A5, rfl, zA0, sA1⟩ := Fu.open_ hcs
  have hT : D.totals x.ds = x.name.size + D.totals x.ty.ds := by simp [Fu.ds, D.totals, D.total]
  rw [hT] at htot
  have H1 := Lib.hid sA1
  have KzA0 := Lib.hid zA0
  clear hT sA1 zA0
  go_enter Tryz.func76, Tryz.ntmps76
  go_wp2_with fail
  refine (toFuncType_p x.ty _ _ (H1.out.below (by repeat (first | exact Below.refl _ _ | refine Below.alloc ?_ (by first | omega | (simp <;> omega)) _))) (by omega)).mono ?_
  rintro e w1 ⟨r1, rfl, q1, hb1⟩
  obtain ⟨R10A, R10m, R10c, R11, R12, R13A, R13m, R13c, R14A, R14m, R14c, R15, rfl⟩ := Fn.form q1.ats
  obtain ⟨B1, bA, bB, bC⟩ := box3 (cA := [_, _, _, _, _, _, _]) (cB := [_, _, _, _, _, _, _]) (cC := [_, _, _, _, _, _, _]) hb1
  replace q1 := q1.weaken (lo' := w.heap.size + 3) (hi' := w1.heap.size) (by simp) (Nat.le_refl _)
  clear hb1
  have c := bA.cell
  have f := bC.cell
  have fz := bC.frozen
  have zz := bC.lt
  have Q1 := Lib.hid q1
  clear q1
  have b := bB.cell
  have bz := bB.frozen
  have lfin := bC.lt
  go_wp2
  refine bodyPost_ret (v := .agg #[.string x.name, .slice R10A R10m R10c, .int .i64 R11, .string R12, .slice R13A R13m R13c, .slice R14A R14m R14c, .bool R15]) (by simp [results, Tryz.results76, go_sem, b]) rfl ⟨[.string x.name, .slice R10A R10m R10c, .int .i64 R11, .string R12, .slice R13A R13m R13c, .slice R14A R14m R14c, .bool R15], rfl, ?_, ?_⟩
  · refine SepsIn.weaken (lo := w.heap.size + 3) (hi := w1.heap.size) ?_ (by omega) (by simp)
    refine SepsIn.keep (w := w1) ?_ (fun b hb1 hb2 => ?_)
    · exact (SepsIn.cons (SepIn.str KzA0.out) Q1.out)
    · repeat (rw [Below.heap_setCell _ _ _ _ (by simp; omega)])
  · repeat (refine Below.setCell ?_ (by simp <;> omega) _)
    exact B1

set_option maxHeartbeats 1000000 in
theorem toFuncS_p (l : List Fu) (hl : ∀ x ∈ l, ToPFunc x) (v : Value) (w : World) (hv : D.At w anyB (rows Fu.ds 7 l) v) (ht : (rows Fu.ds 7 l).total ≤ 1048576) :
    Calls Tryz.prog 37 #[v] w (RetS (rows Fu.ds 7 l) w) := by
  obtain ⟨A, cap, rfl, hn, hc⟩ := rows_form Fu.len hv
  unfold maxLen at hc
  rw [rows_total] at ht
  have HV := Lib.hid hv
  have HL := Lib.hid hl
  obtain ⟨i0, hi, hz0, hz1, hz2⟩ := info_parts info_iFunc
  obtain ⟨cur, hcs, hmk⟩ := make_fact (P := Tryz.prog) Tryz.underlying35 hi hz0 hz1 hz2 l.length (by omega) (by omega) w
  have HC := Lib.hid (FilledP.start w cur 76 7 l.length hcs)
  clear hv hl hi hz0 hz1 hz2 hcs
  go_enter Tryz.func37, Tryz.ntmps37
  go_wp2
  go_loopw [4] (fun i wr => ∃ k : Nat, k ≤ l.length ∧ i = .int .i64 k ∧ FilledP w wr w.heap.size 76 7 l.length k ((l.take k).flatMap Fu.ds)) (fun i _ => l.length - (intOf i).toNat)
  case atStart => exact ⟨0, Nat.zero_le _, rfl, HC.out⟩
  case round =>
    obtain ⟨k, hk, rfl, hf⟩ := hrel
    have hb := hf.below
    by_cases hlt : k < l.length
    · obtain ⟨x, hx⟩ : ∃ x, l[k]? = some x := ⟨l[k], List.getElem?_eq_getElem hlt⟩
      obtain ⟨b, off, u0, u1, u2, u3, u4, u5, u6, rfl, -, hbl, hat, c0, c1, c2, c3, c4, c5, c6⟩ := rows_at7 Fu.len HV.out hx
      replace c0 := (hb.cell (p := ⟨b, off + k * 7, none⟩) hbl).trans c0
      replace c1 := (hb.cell (p := ⟨b, off + k * 7 + 1, none⟩) hbl).trans c1
      replace c2 := (hb.cell (p := ⟨b, off + k * 7 + 2, none⟩) hbl).trans c2
      replace c3 := (hb.cell (p := ⟨b, off + k * 7 + 3, none⟩) hbl).trans c3
      replace c4 := (hb.cell (p := ⟨b, off + k * 7 + 4, none⟩) hbl).trans c4
      replace c5 := (hb.cell (p := ⟨b, off + k * 7 + 5, none⟩) hbl).trans c5
      replace c6 := (hb.cell (p := ⟨b, off + k * 7 + 6, none⟩) hbl).trans c6
      have hxm : x ∈ l := List.mem_of_getElem? hx
      have hxt := totals_mem (f := Fu.ds) hxm
      have HD := Lib.hid (take_next (f := Fu.ds) hx)
      clear hx
      go_wp2_with fail
      refine (HL.out x hxm _ _ (hat.below hb) (by omega)).mono ?_
      rintro e w1 ⟨cs, rfl, hcs, hb1⟩
      obtain ⟨F0, F1A, F1m, F1c, F2, F3, F4A, F4m, F4c, F5A, F5m, F5c, F6, rfl⟩ := Fu.form hcs.ats
      obtain ⟨o0, p0, q0⟩ := hf.cells hb1 (k * 7) (by omega)
      obtain ⟨o1, p1, q1⟩ := hf.cells hb1 (k * 7 + 1) (by omega)
      obtain ⟨o2, p2, q2⟩ := hf.cells hb1 (k * 7 + 2) (by omega)
      obtain ⟨o3, p3, q3⟩ := hf.cells hb1 (k * 7 + 3) (by omega)
      obtain ⟨o4, p4, q4⟩ := hf.cells hb1 (k * 7 + 4) (by omega)
      obtain ⟨o5, p5, q5⟩ := hf.cells hb1 (k * 7 + 5) (by omega)
      obtain ⟨o6, p6, q6⟩ := hf.cells hb1 (k * 7 + 6) (by omega)
      have HF := Lib.hid (hf.store hb1 hlt rfl hcs)
      clear hcs hb1 c0 c1 c2 c3 c4 c5 c6 hf hb
      go_wp2
      go_roundw
      case rel => exact ⟨k + 1, by omega, by go_num, by rw [HD.out]; exact HF.out⟩
      case measure => simp [intOf]; omega
    · obtain rfl : k = l.length := by omega
      have hd := hf.done (by unfold maxLen; omega) (fun h => by rw [List.take_of_length_le (Nat.le_refl _), List.eq_nil_of_length_eq_zero h]; rfl)
      have HF := Lib.hid (And.intro hd hb)
      clear hd hb hf
      go_wp2
      go_ret
      refine ⟨_, rfl, ?_, HF.out.2⟩
      have := HF.out.1
      rw [List.take_length] at this
      exact this.weaken (Nat.le_refl _) (Nat.le_refl _)

end Go.Proofs.YtpfkhojhkjaafaaGreatDoor
namespace Go.Proofs.YtpfkhojhkjaafaaGreatDoor
open Go.RowKit

def ToPFace (x : Fa) : Prop := ∀ (cs : List Value) (w : World), D.Ats w anyB x.ds cs → D.totals x.ds ≤ 1048576 → Calls Tryz.prog 8 #[.agg cs.toArray] w (RetSs x.ds w)

set_option maxHeartbeats 1000000 in
theorem toFace_p (x : Fa) : ToPFace x := by
  intro cs w hcs htot
  obtain ⟨AA, Ac, AA', Ac', rfl, zA0, zA1, zA2, sA3, sA4⟩ := Fa.open_ hcs
  have hT : D.totals x.ds = x.pkg.size + x.name.size + x.ver.size + (strs x.owns).total + (rows Fu.ds 7 x.funcs).total := by simp [Fa.ds, D.totals, D.total] <;> omega
  rw [hT] at htot
  have H3 := Lib.hid sA3
  have H4 := Lib.hid sA4
  have KzA0 := Lib.hid zA0
  have KzA1 := Lib.hid zA1
  have KzA2 := Lib.hid zA2
  clear hT sA3 sA4 zA0 zA1 zA2
  go_enter Tryz.func8, Tryz.ntmps8
  go_wp2_with fail
  refine (toStringS_p x.owns _ _ (H3.out.below (by repeat (first | exact Below.refl _ _ | refine Below.alloc ?_ (by first | omega | (simp <;> omega)) _))) (by omega)).mono ?_
  rintro e w1 ⟨r1, rfl, q1, hb1⟩
  obtain ⟨R1A, R1c, rfl, -, -⟩ := rows_form strD_length q1.at_
  obtain ⟨B1, bA, bB, bC⟩ := box3 (cA := [_, _, _, _, _]) (cB := [_, _, _, _, _]) (cC := [_, _, _, _, _]) hb1
  replace q1 := q1.weaken (lo' := w.heap.size + 3) (hi' := w1.heap.size) (by simp) (Nat.le_refl _)
  clear hb1
  have c := bA.cell
  have f := bC.cell
  have fz := bC.frozen
  have zz := bC.lt
  have Q1 := Lib.hid q1
  clear q1
  have q1 := Q1.out
  clear Q1
  go_wp2_with fail
  refine (toFuncS_p x.funcs (fun x _ => toFunc_p x) _ _ (H4.out.below (by repeat (first | exact B1 | refine Below.setCell ?_ (by simp <;> omega) _))) (by omega)).mono ?_
  rintro e w2 ⟨r2, rfl, q2, hb2⟩
  obtain ⟨R2A, R2c, rfl, -, -⟩ := rows_form Fu.len q2.at_
  have hsz := hb2.size
  simp at hsz
  have B2 : Below w.heap.size w w2 := Below.trans (by repeat (first | exact B1 | refine Below.setCell ?_ (by simp <;> omega) _)) (hb2.mono (by have := B1.size; simp; omega))
  have lC := bC.lt
  replace bA := (Box.set_ne (bA) (by simp <;> omega) (.slice R1A x.owns.length R1c)).call hb2
  replace bB := (Box.set_ne (bB) (by simp <;> omega) (.slice R1A x.owns.length R1c)).call hb2
  replace bC := ((bC.set 3 (.slice R1A x.owns.length R1c))).call hb2
  simp only [List.set] at bC
  replace q1 := (SepIn.set (q1) (.inl (by simp <;> omega)) (.slice R1A x.owns.length R1c)).below hb2 (by simp <;> omega)
  replace q2 := q2.weaken (lo' := w1.heap.size) (hi' := w2.heap.size) (by simp) (Nat.le_refl _)
  have hsz2 : w1.heap.size ≤ w2.heap.size := hsz
  clear hsz lC
  clear hb2 c f fz zz
  clear B1
  have c := bA.cell
  have f := bC.cell
  have fz := bC.frozen
  have zz := bC.lt
  have Q1 := Lib.hid q1
  clear q1
  have Q2 := Lib.hid q2
  clear q2
  have b := bB.cell
  have bz := bB.frozen
  have lfin := bC.lt
  go_wp2
  refine bodyPost_ret (v := .agg #[.string x.pkg, .string x.name, .string x.ver, .slice R1A x.owns.length R1c, .slice R2A x.funcs.length R2c]) (by simp [results, Tryz.results8, go_sem, b]) rfl ⟨[.string x.pkg, .string x.name, .string x.ver, .slice R1A x.owns.length R1c, .slice R2A x.funcs.length R2c], rfl, ?_, ?_⟩
  · refine SepsIn.weaken (lo := w.heap.size + 3) (hi := w2.heap.size) ?_ (by omega) (by simp)
    refine SepsIn.keep (w := w2) ?_ (fun b hb1 hb2 => ?_)
    · exact (SepsIn.cons (SepIn.str KzA0.out) (SepsIn.cons (SepIn.str KzA1.out) (SepsIn.cons (SepIn.str KzA2.out) (SepsIn.cons Q1.out (SepsIn.cons Q2.out (SepsIn.nil (Nat.le_refl _)))))))
    · repeat (rw [Below.heap_setCell _ _ _ _ (by simp; omega)])
  · repeat (refine Below.setCell ?_ (by simp <;> omega) _)
    exact B2

end Go.Proofs.YtpfkhojhkjaafaaGreatDoor
