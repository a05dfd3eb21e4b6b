/- Slices of texts: the law's deep copy, in memory of its own. Value: the law's deep copy, each slice in memory of its own. Type: the law's deep copy, each slice in memory of its own. -/
import Derived.Test.YtcpadaelgdmipaaGreatDoorPkG
import Derived.Test.YtcpadaelgdmipaaGreatDoorSepIn
namespace Go.Proofs.YtcpadaelgdmipaaGreatDoor
open Go.RowKit

set_option maxHeartbeats 1000000 in
theorem toStringS_p (l : List ByteArray) (v : Value) (w : World) (hv : D.At w anyB (strs l) v) (ht : (strs l).total ≤ 1048576) : Calls Tryz.prog 29 #[v] w (RetS (strs l) w) := by
  obtain ⟨A, cap, rfl, hn, hc⟩ := rows_form strD_length hv
  unfold maxLen at hc
  rw [strs, rows_total] at ht
  have HV := Lib.hid hv
  obtain ⟨i0, hi, hz0, hz1, hz2⟩ := info_parts info_str
  obtain ⟨cur, hcs, hmk⟩ := make_fact (P := Tryz.prog) Tryz.underlying25 hi hz0 hz1 hz2 l.length (by omega) (by omega) w
  have HC := Lib.hid (FilledP.start w cur 9 1 l.length hcs)
  clear hv hi hz0 hz1 hz2 hcs
  go_enter Tryz.func29, Tryz.ntmps29
  go_wp2
  go_loopw [4] (fun i wr => ∃ k : Nat, k ≤ l.length ∧ i = .int .i64 k ∧ FilledP w wr w.heap.size 9 1 l.length k ((l.take k).flatMap strD)) (fun i _ => l.length - (intOf i).toNat)
  case atStart => exact ⟨0, Nat.zero_le _, rfl, HC.out⟩
  case round =>
    obtain ⟨k, hk, rfl, hf⟩ := hrel
    have hb := hf.below
    by_cases hlt : k < l.length
    · obtain ⟨x, hx⟩ : ∃ x, l[k]? = some x := ⟨l[k], List.getElem?_eq_getElem hlt⟩
      obtain ⟨b, off, u0, rfl, -, hbl, hat, c0⟩ := rows_at1 strD_length HV.out hx
      replace c0 := (hb.cell (p := ⟨b, off + k, none⟩) hbl).trans c0
      obtain ⟨rfl, hxs⟩ := str_open hat
      have HD := Lib.hid (take_next (f := strD) hx)
      clear hx
      obtain ⟨o0, p0, q0⟩ := hf.cells (Below.refl _ _) k (by omega)
      have hst := hf.store (Below.refl _ _) hlt rfl (es := strD x) (SepsIn.cons (SepIn.str hxs) (SepsIn.nil (Nat.le_refl _)))
      rw [Nat.mul_one] at hst
      have HF := Lib.hid hst
      clear hf hst hat hxs
      go_wp2
      go_roundw
      case rel => exact ⟨k + 1, by omega, by go_num, by rw [HD.out]; exact HF.out⟩
      case measure => simp [intOf]; omega
    · obtain rfl : k = l.length := by omega
      have hd := hf.done (by unfold maxLen; omega) (fun h => by rw [List.take_of_length_le (Nat.le_refl _), List.eq_nil_of_length_eq_zero h]; rfl)
      have HF := Lib.hid (And.intro hd hb)
      clear hd hb hf
      go_wp2
      go_ret
      refine ⟨_, rfl, ?_, HF.out.2⟩
      have := HF.out.1
      rw [List.take_length] at this
      exact this
end Go.Proofs.YtcpadaelgdmipaaGreatDoor
namespace Go.Proofs.YtcpadaelgdmipaaGreatDoor
open Go.RowKit

def ToPValue (x : Va) : Prop := ∀ (cs : List Value) (w : World), D.Ats w anyB x.ds cs → D.totals x.ds ≤ 1048576 → Calls Tryz.prog 8 #[.agg cs.toArray] w (RetSs x.ds w)

set_option maxHeartbeats 1000000 in
theorem toValueS_p (l : List Va) (hl : ∀ x ∈ l, ToPValue x) (v : Value) (w : World) (hv : D.At w anyB (rows Va.ds 4 l) v) (ht : (rows Va.ds 4 l).total ≤ 1048576) :
    Calls Tryz.prog 28 #[v] w (RetS (rows Va.ds 4 l) w) := by
  obtain ⟨A, cap, rfl, hn, hc⟩ := rows_form Va.len hv
  unfold maxLen at hc
  rw [rows_total] at ht
  have HV := Lib.hid hv
  have HL := Lib.hid hl
  obtain ⟨i0, hi, hz0, hz1, hz2⟩ := info_parts info_iValue
  obtain ⟨cur, hcs, hmk⟩ := make_fact (P := Tryz.prog) Tryz.underlying32 hi hz0 hz1 hz2 l.length (by omega) (by omega) w
  have HC := Lib.hid (FilledP.start w cur 34 4 l.length hcs)
  clear hv hl hi hz0 hz1 hz2 hcs
  go_enter Tryz.func28, Tryz.ntmps28
  go_wp2
  go_loopw [4] (fun i wr => ∃ k : Nat, k ≤ l.length ∧ i = .int .i64 k ∧ FilledP w wr w.heap.size 34 4 l.length k ((l.take k).flatMap Va.ds)) (fun i _ => l.length - (intOf i).toNat)
  case atStart => exact ⟨0, Nat.zero_le _, rfl, HC.out⟩
  case round =>
    obtain ⟨k, hk, rfl, hf⟩ := hrel
    have hb := hf.below
    by_cases hlt : k < l.length
    · obtain ⟨x, hx⟩ : ∃ x, l[k]? = some x := ⟨l[k], List.getElem?_eq_getElem hlt⟩
      obtain ⟨b, off, u0, u1, u2, u3, rfl, -, hbl, hat, c0, c1, c2, c3⟩ := rows_at4 Va.len HV.out hx
      replace c0 := (hb.cell (p := ⟨b, off + k * 4, none⟩) hbl).trans c0
      replace c1 := (hb.cell (p := ⟨b, off + k * 4 + 1, none⟩) hbl).trans c1
      replace c2 := (hb.cell (p := ⟨b, off + k * 4 + 2, none⟩) hbl).trans c2
      replace c3 := (hb.cell (p := ⟨b, off + k * 4 + 3, none⟩) hbl).trans c3
      have hxm : x ∈ l := List.mem_of_getElem? hx
      have hxt := totals_mem (f := Va.ds) hxm
      have HD := Lib.hid (take_next (f := Va.ds) hx)
      clear hx
      go_wp2_with fail
      refine (HL.out x hxm _ _ (hat.below hb) (by omega)).mono ?_
      rintro e w1 ⟨cs, rfl, hcs, hb1⟩
      obtain ⟨F0, F1, F2, F3A, F3m, F3c, rfl⟩ := Va.form hcs.ats
      obtain ⟨o0, p0, q0⟩ := hf.cells hb1 (k * 4) (by omega)
      obtain ⟨o1, p1, q1⟩ := hf.cells hb1 (k * 4 + 1) (by omega)
      obtain ⟨o2, p2, q2⟩ := hf.cells hb1 (k * 4 + 2) (by omega)
      obtain ⟨o3, p3, q3⟩ := hf.cells hb1 (k * 4 + 3) (by omega)
      have HF := Lib.hid (hf.store hb1 hlt rfl hcs)
      clear hcs hb1 c0 c1 c2 c3 hf hb
      go_wp2
      go_roundw
      case rel => exact ⟨k + 1, by omega, by go_num, by rw [HD.out]; exact HF.out⟩
      case measure => simp [intOf]; omega
    · obtain rfl : k = l.length := by omega
      have hd := hf.done (by unfold maxLen; omega) (fun h => by rw [List.take_of_length_le (Nat.le_refl _), List.eq_nil_of_length_eq_zero h]; rfl)
      have HF := Lib.hid (And.intro hd hb)
      clear hd hb hf
      go_wp2
      go_ret
      refine ⟨_, rfl, ?_, HF.out.2⟩
      have := HF.out.1
      rw [List.take_length] at this
      exact this.weaken (Nat.le_refl _) (Nat.le_refl _)

set_option maxHeartbeats 1000000 in
theorem toValue_p (x : Va) : ToPValue x := by
  refine Va.ind (fun k m t kids ih => ?_) x
  intro cs w hcs htot
  obtain ⟨AA, Ac, rfl, iA0, iA1, zA2, sA3⟩ := Va.open_ hcs
  have hT : D.totals (Va.mk k m t kids).ds = t.size + (rows Va.ds 4 kids).total := by simp [Va.ds_eq, D.totals, D.total]
  rw [hT] at htot
  have IH := Lib.hid ih
  have H3 := Lib.hid sA3
  have KiA0 := Lib.hid iA0
  have KiA1 := Lib.hid iA1
  have KzA2 := Lib.hid zA2
  clear hT ih sA3 iA0 iA1 zA2
  go_enter Tryz.func8, Tryz.ntmps8
  go_wp2_with fail
  refine (toValueS_p kids IH.out _ _ (H3.out.below (by repeat (first | exact Below.refl _ _ | refine Below.alloc ?_ (by first | omega | (simp <;> omega)) _))) (by omega)).mono ?_
  rintro e w1 ⟨r1, rfl, q1, hb1⟩
  obtain ⟨R1A, R1c, rfl, -, -⟩ := rows_form Va.len q1.at_
  obtain ⟨B1, bA, bB, bC⟩ := box3 (cA := [_, _, _, _]) (cB := [_, _, _, _]) (cC := [_, _, _, _]) hb1
  replace q1 := q1.weaken (lo' := w.heap.size + 3) (hi' := w1.heap.size) (by simp) (Nat.le_refl _)
  clear hb1
  have c := bA.cell
  have f := bC.cell
  have fz := bC.frozen
  have zz := bC.lt
  have Q1 := Lib.hid q1
  clear q1
  have b := bB.cell
  have bz := bB.frozen
  have lfin := bC.lt
  go_wp2
  refine bodyPost_ret (v := .agg #[.int .i64 k, .int .i64 m, .string t, .slice R1A kids.length R1c]) (by simp [results, Tryz.results8, go_sem, b]) rfl ⟨[.int .i64 k, .int .i64 m, .string t, .slice R1A kids.length R1c], rfl, ?_, ?_⟩
  · refine SepsIn.weaken (lo := w.heap.size + 3) (hi := w1.heap.size) ?_ (by omega) (by simp)
    refine SepsIn.keep (w := w1) ?_ (fun b hb1 hb2 => ?_)
    · rw [Va.ds_eq]
      exact (SepsIn.cons (SepIn.int KiA0.out) (SepsIn.cons (SepIn.int KiA1.out) (SepsIn.cons (SepIn.str KzA2.out) (SepsIn.cons Q1.out (SepsIn.nil (Nat.le_refl _))))))
    · repeat (rw [Below.heap_setCell _ _ _ _ (by simp; omega)])
  · repeat (refine Below.setCell ?_ (by simp <;> omega) _)
    exact B1

end Go.Proofs.YtcpadaelgdmipaaGreatDoor
namespace Go.Proofs.YtcpadaelgdmipaaGreatDoor
open Go.RowKit

def ToPType (x : Ty) : Prop := ∀ (cs : List Value) (w : World), D.Ats w anyB x.ds cs → D.totals x.ds ≤ 1048576 → Calls Tryz.prog 9 #[.agg cs.toArray] w (RetSs x.ds w)

set_option maxHeartbeats 1000000 in
theorem toTypeS_p (l : List Ty) (hl : ∀ x ∈ l, ToPType x) (v : Value) (w : World) (hv : D.At w anyB (rows Ty.ds 4 l) v) (ht : (rows Ty.ds 4 l).total ≤ 1048576) :
    Calls Tryz.prog 30 #[v] w (RetS (rows Ty.ds 4 l) w) := by
  obtain ⟨A, cap, rfl, hn, hc⟩ := rows_form Ty.len hv
  unfold maxLen at hc
  rw [rows_total] at ht
  have HV := Lib.hid hv
  have HL := Lib.hid hl
  obtain ⟨i0, hi, hz0, hz1, hz2⟩ := info_parts info_iType
  obtain ⟨cur, hcs, hmk⟩ := make_fact (P := Tryz.prog) Tryz.underlying38 hi hz0 hz1 hz2 l.length (by omega) (by omega) w
  have HC := Lib.hid (FilledP.start w cur 40 4 l.length hcs)
  clear hv hl hi hz0 hz1 hz2 hcs
  go_enter Tryz.func30, Tryz.ntmps30
  go_wp2
  go_loopw [4] (fun i wr => ∃ k : Nat, k ≤ l.length ∧ i = .int .i64 k ∧ FilledP w wr w.heap.size 40 4 l.length k ((l.take k).flatMap Ty.ds)) (fun i _ => l.length - (intOf i).toNat)
  case atStart => exact ⟨0, Nat.zero_le _, rfl, HC.out⟩
  case round =>
    obtain ⟨k, hk, rfl, hf⟩ := hrel
    have hb := hf.below
    by_cases hlt : k < l.length
    · obtain ⟨x, hx⟩ : ∃ x, l[k]? = some x := ⟨l[k], List.getElem?_eq_getElem hlt⟩
      obtain ⟨b, off, u0, u1, u2, u3, rfl, -, hbl, hat, c0, c1, c2, c3⟩ := rows_at4 Ty.len HV.out hx
      replace c0 := (hb.cell (p := ⟨b, off + k * 4, none⟩) hbl).trans c0
      replace c1 := (hb.cell (p := ⟨b, off + k * 4 + 1, none⟩) hbl).trans c1
      replace c2 := (hb.cell (p := ⟨b, off + k * 4 + 2, none⟩) hbl).trans c2
      replace c3 := (hb.cell (p := ⟨b, off + k * 4 + 3, none⟩) hbl).trans c3
      have hxm : x ∈ l := List.mem_of_getElem? hx
      have hxt := totals_mem (f := Ty.ds) hxm
      have HD := Lib.hid (take_next (f := Ty.ds) hx)
      clear hx
      go_wp2_with fail
      refine (HL.out x hxm _ _ (hat.below hb) (by omega)).mono ?_
      rintro e w1 ⟨cs, rfl, hcs, hb1⟩
      obtain ⟨F0, F1, F2A, F2m, F2c, F3A, F3m, F3c, rfl⟩ := Ty.form hcs.ats
      obtain ⟨o0, p0, q0⟩ := hf.cells hb1 (k * 4) (by omega)
      obtain ⟨o1, p1, q1⟩ := hf.cells hb1 (k * 4 + 1) (by omega)
      obtain ⟨o2, p2, q2⟩ := hf.cells hb1 (k * 4 + 2) (by omega)
      obtain ⟨o3, p3, q3⟩ := hf.cells hb1 (k * 4 + 3) (by omega)
      have HF := Lib.hid (hf.store hb1 hlt rfl hcs)
      clear hcs hb1 c0 c1 c2 c3 hf hb
      go_wp2
      go_roundw
      case rel => exact ⟨k + 1, by omega, by go_num, by rw [HD.out]; exact HF.out⟩
      case measure => simp [intOf]; omega
    · obtain rfl : k = l.length := by omega
      have hd := hf.done (by unfold maxLen; omega) (fun h => by rw [List.take_of_length_le (Nat.le_refl _), List.eq_nil_of_length_eq_zero h]; rfl)
      have HF := Lib.hid (And.intro hd hb)
      clear hd hb hf
      go_wp2
      go_ret
      refine ⟨_, rfl, ?_, HF.out.2⟩
      have := HF.out.1
      rw [List.take_length] at this
      exact this.weaken (Nat.le_refl _) (Nat.le_refl _)

set_option maxHeartbeats 1000000 in
theorem toType_p (x : Ty) : ToPType x := by
  refine Ty.ind (fun k n l kids ih => ?_) x
  intro cs w hcs htot
  obtain ⟨AA, Ac, AA', Ac', rfl, iA0, zA1, sA2, sA3⟩ := Ty.open_ hcs
  have hT : D.totals (Ty.mk k n l kids).ds = n.size + (strs l).total + (rows Ty.ds 4 kids).total := by simp [Ty.ds_eq, D.totals, D.total] <;> omega
  rw [hT] at htot
  have IH := Lib.hid ih
  have H2 := Lib.hid sA2
  have H3 := Lib.hid sA3
  have KiA0 := Lib.hid iA0
  have KzA1 := Lib.hid zA1
  clear hT ih sA2 sA3 iA0 zA1
  go_enter Tryz.func9, Tryz.ntmps9
  go_wp2_with fail
  refine (toStringS_p l _ _ (H2.out.below (by repeat (first | exact Below.refl _ _ | refine Below.alloc ?_ (by first | omega | (simp <;> omega)) _))) (by omega)).mono ?_
  rintro e w1 ⟨r1, rfl, q1, hb1⟩
  obtain ⟨R1A, R1c, rfl, -, -⟩ := rows_form strD_length q1.at_
  obtain ⟨B1, bA, bB, bC⟩ := box3 (cA := [_, _, _, _]) (cB := [_, _, _, _]) (cC := [_, _, _, _]) hb1
  replace q1 := q1.weaken (lo' := w.heap.size + 3) (hi' := w1.heap.size) (by simp) (Nat.le_refl _)
  clear hb1
  have c := bA.cell
  have f := bC.cell
  have fz := bC.frozen
  have zz := bC.lt
  have Q1 := Lib.hid q1
  clear q1
  have q1 := Q1.out
  clear Q1
  go_wp2_with fail
  refine (toTypeS_p kids IH.out _ _ (H3.out.below (by repeat (first | exact B1 | refine Below.setCell ?_ (by simp <;> omega) _))) (by omega)).mono ?_
  rintro e w2 ⟨r2, rfl, q2, hb2⟩
  obtain ⟨R2A, R2c, rfl, -, -⟩ := rows_form Ty.len q2.at_
  have hsz := hb2.size
  simp at hsz
  have B2 : Below w.heap.size w w2 := Below.trans (by repeat (first | exact B1 | refine Below.setCell ?_ (by simp <;> omega) _)) (hb2.mono (by have := B1.size; simp; omega))
  have lC := bC.lt
  replace bA := (Box.set_ne (bA) (by simp <;> omega) (.slice R1A l.length R1c)).call hb2
  replace bB := (Box.set_ne (bB) (by simp <;> omega) (.slice R1A l.length R1c)).call hb2
  replace bC := ((bC.set 2 (.slice R1A l.length R1c))).call hb2
  simp only [List.set] at bC
  replace q1 := (SepIn.set (q1) (.inl (by simp <;> omega)) (.slice R1A l.length R1c)).below hb2 (by simp <;> omega)
  replace q2 := q2.weaken (lo' := w1.heap.size) (hi' := w2.heap.size) (by simp) (Nat.le_refl _)
  have hsz2 : w1.heap.size ≤ w2.heap.size := hsz
  clear hsz lC
  clear hb2 c f fz zz
  clear B1
  have c := bA.cell
  have f := bC.cell
  have fz := bC.frozen
  have zz := bC.lt
  have Q1 := Lib.hid q1
  clear q1
  have Q2 := Lib.hid q2
  clear q2
  have b := bB.cell
  have bz := bB.frozen
  have lfin := bC.lt
  go_wp2
  refine bodyPost_ret (v := .agg #[.int .i64 k, .string n, .slice R1A l.length R1c, .slice R2A kids.length R2c]) (by simp [results, Tryz.results9, go_sem, b]) rfl ⟨[.int .i64 k, .string n, .slice R1A l.length R1c, .slice R2A kids.length R2c], rfl, ?_, ?_⟩
  · refine SepsIn.weaken (lo := w.heap.size + 3) (hi := w2.heap.size) ?_ (by omega) (by simp)
    refine SepsIn.keep (w := w2) ?_ (fun b hb1 hb2 => ?_)
    · rw [Ty.ds_eq]
      exact (SepsIn.cons (SepIn.int KiA0.out) (SepsIn.cons (SepIn.str KzA1.out) (SepsIn.cons Q1.out (SepsIn.cons Q2.out (SepsIn.nil (Nat.le_refl _))))))
    · repeat (rw [Below.heap_setCell _ _ _ _ (by simp; omega)])
  · repeat (refine Below.setCell ?_ (by simp <;> omega) _)
    exact B2

end Go.Proofs.YtcpadaelgdmipaaGreatDoor
