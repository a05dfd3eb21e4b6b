/- Slices of texts: how much the law counts, its copy, its comparison. Value: how much the law counts, its deep copy, its comparison. Type: how much the law counts, its deep copy, its comparison. -/
import Derived.Test.YtcpadaelgdmipaaGreatDoorCore
import Derived.Test.YtcpadaelgdmipaaGreatDoorTree
import Derived.Test.YtcpadaelgdmipaaGreatDoorRow4
import Derived.Test.YtcpadaelgdmipaaGreatDoorVaM
import Derived.Test.YtcpadaelgdmipaaGreatDoorTyM
namespace Go.Proofs.YtcpadaelgdmipaaGreatDoor
open Go.RowKit

/-- A function that says q of two structs. -/
def IsQ {α : Type} (F : FuncId) (f : α → List D) (q : α → α → Bool) (x : α) : Prop := ∀ (y : α) (cs cs' : List Value) (w : World), D.Ats w anyB (f x) cs → D.Ats w anyB (f y) cs' →
  Calls Tryz.prog F #[.agg cs.toArray, .agg cs'.toArray] w fun e w' => e = .returned (.bool (q x y)) ∧ Below w.heap.size w w'

set_option maxHeartbeats 1000000 in
theorem szStringS_w (l : List ByteArray) (v : Value) (a : Int) (w : World) (hv : D.At w anyB (strs l) v) (h0 : 0 ≤ a) (h1 : a ≤ 1048576) :
    Calls Tryz.prog 22 #[v, .int .i64 a] w fun e w' => e = .returned (.int .i64 (left a (strs l).total)) ∧ Below w.heap.size w w' := by
  obtain ⟨A, cap, rfl, hn, hc⟩ := rows_form strD_length hv
  unfold maxLen at hc
  have HV := Lib.hid hv
  clear hv
  rw [strs, rows_total]
  by_cases hlen : (l.length : Int) ≤ a
  · go_enter Tryz.func22, Tryz.ntmps22
    go_wp2
    go_loopw [1, 5] (fun a' i wr => ∃ (k : Nat) (q : Int), k ≤ l.length ∧ i = .int .i64 k ∧ a' = .int .i64 q ∧ q = a - l.length - (D.totals ((l.take k).flatMap strD) : Int) ∧ 0 ≤ q ∧ Below w.heap.size w wr) (fun _ i _ => l.length - (intOf i).toNat)
    case atStart => exact ⟨0, _, Nat.zero_le _, rfl, rfl, by simp [D.totals], by omega, Below.refl _ _⟩
    case round =>
      obtain ⟨k, q, hk, rfl, rfl, hq, hq0, hb⟩ := hrel
      have HQ := Lib.hid hq
      have hq1 : q ≤ 1048576 := by omega
      clear hq
      by_cases hlt : k < l.length
      · obtain ⟨x, hx⟩ : ∃ x, l[k]? = some x := ⟨l[k], List.getElem?_eq_getElem hlt⟩
        obtain ⟨b, off, u0, rfl, -, hbl, hat, c0⟩ := rows_at1 strD_length HV.out hx
        replace c0 := (hb.cell (p := ⟨b, off + k, none⟩) hbl).trans c0
        obtain ⟨rfl, hxs⟩ := str_open hat
        unfold maxLen at hxs
        have ht : D.totals ((l.take (k + 1)).flatMap strD) = D.totals ((l.take k).flatMap strD) + x.size := by rw [take_next hx, D.totals_append]; simp [strD, D.totals, D.total]
        have htl := totals_take (f := strD) l (k + 1)
        have HT := Lib.hid (And.intro ht htl)
        clear ht htl hx hat
        by_cases hle : (x.size : Int) ≤ q
        · have hg : 0 ≤ q - (x.size : Int) := by omega
          go_wp2
          go_roundw
          case rel =>
            refine ⟨k + 1, q - x.size, by omega, by go_num, rfl, ?_, hg, hb⟩
            rw [HT.out.1, HQ.out]; omega
          case measure => simp [intOf]; omega
        · go_wp2
          go_ret
          refine ⟨ret_eq ?_, hb⟩
          rw [left_no (by have := HT.out; have := HQ.out; omega)]
          rfl
      · go_wp2
        go_ret
        refine ⟨ret_eq ?_, hb⟩
        have hk' : l.take k = l := List.take_of_length_le (by omega)
        have e := HQ.out
        rw [hk'] at e
        have e2 : left a (l.length + D.totals (l.flatMap strD)) = q := by rw [left_yes (by omega)]; omega
        rw [e2]
        rfl
  · rw [left_no (by omega)]
    go_enter Tryz.func22, Tryz.ntmps22
    go_wp2
    go_ret
    exact ⟨rfl, Below.refl _ _⟩

theorem info_str : (Tryz.prog.info? 9).map (fun i => (i.zero, i.size, i.bytes)) = some (some (.string ⟨#[]⟩), 1, 16) := by kernel_rfl

set_option maxHeartbeats 1000000 in
theorem toStringS_x (l : List ByteArray) (v : Value) (w : World) (hv : D.At w anyB (strs l) v) (ht : (strs l).total ≤ 1048576) : Calls Tryz.prog 29 #[v] w fun e w' => RetD (strs l) w e w' ∧ ∃ g cap, e = .returned (.slice (some ⟨g, 0, none⟩) l.length cap) := by
  obtain ⟨A, cap, rfl, hn, hc⟩ := rows_form strD_length hv
  unfold maxLen at hc
  rw [strs, rows_total] at ht
  have HV := Lib.hid hv
  obtain ⟨i0, hi, hz0, hz1, hz2⟩ := info_parts info_str
  obtain ⟨cur, hcs, hmk⟩ := make_fact (P := Tryz.prog) Tryz.underlying25 hi hz0 hz1 hz2 l.length (by omega) (by omega) w
  have HC := Lib.hid (Filled.start w cur 9 1 l.length hcs)
  clear hv hi hz0 hz1 hz2 hcs
  go_enter Tryz.func29, Tryz.ntmps29
  go_wp2
  go_loopw [4] (fun i wr => ∃ k : Nat, k ≤ l.length ∧ i = .int .i64 k ∧ Filled w wr w.heap.size 9 1 l.length k ((l.take k).flatMap strD)) (fun i _ => l.length - (intOf i).toNat)
  case atStart => exact ⟨0, Nat.zero_le _, rfl, HC.out⟩
  case round =>
    obtain ⟨k, hk, rfl, hf⟩ := hrel
    have hb := hf.below
    by_cases hlt : k < l.length
    · obtain ⟨x, hx⟩ : ∃ x, l[k]? = some x := ⟨l[k], List.getElem?_eq_getElem hlt⟩
      obtain ⟨b, off, u0, rfl, -, hbl, hat, c0⟩ := rows_at1 strD_length HV.out hx
      replace c0 := (hb.cell (p := ⟨b, off + k, none⟩) hbl).trans c0
      obtain ⟨rfl, hxs⟩ := str_open hat
      have HD := Lib.hid (take_next (f := strD) hx)
      clear hx
      obtain ⟨o0, p0, q0⟩ := hf.cells k (by omega)
      have hst := hf.store hlt rfl (str_mk (S := fun b => w.heap.size < b) hxs)
      rw [Nat.mul_one] at hst
      have HF := Lib.hid hst
      clear hf hst hat hxs
      go_wp2
      go_roundw
      case rel => exact ⟨k + 1, by omega, by go_num, by rw [HD.out]; exact HF.out⟩
      case measure => simp [intOf]; omega
    · obtain rfl : k = l.length := by omega
      have hd := hf.done (by unfold maxLen; omega)
      have HF := Lib.hid (And.intro hd hb)
      clear hd hb hf
      go_wp2
      go_ret
      refine ⟨⟨_, rfl, ?_, HF.out.2⟩, _, _, rfl⟩
      have := HF.out.1
      rw [List.take_length] at this
      exact this
theorem toStringS_w (l : List ByteArray) (v : Value) (w : World) (hv : D.At w anyB (strs l) v) (ht : (strs l).total ≤ 1048576) : Calls Tryz.prog 29 #[v] w (RetD (strs l) w) :=
  (toStringS_x l v w hv ht).mono fun _ _ h => h.1

set_option maxHeartbeats 1000000 in
theorem eqStringS_w (l m : List ByteArray) (v v' : Value) (w : World) (hv : D.At w anyB (strs l) v) (hv' : D.At w anyB (strs m) v') :
    Calls Tryz.prog 38 #[v, v'] w fun e w' => e = .returned (.bool (pairs sameS l m)) ∧ Below w.heap.size w w' := by
  obtain ⟨A, cap, rfl, hn, hc⟩ := rows_form strD_length hv
  obtain ⟨A', cap', rfl, hn', hc'⟩ := rows_form strD_length hv'
  unfold maxLen at hc hc'
  have HV := Lib.hid hv
  have HV' := Lib.hid hv'
  clear hv hv'
  by_cases hlm : l.length = m.length
  · have g1 : ((l.length : Int) != (m.length : Int)) = false := by simp [hlm]
    have HLM := Lib.hid hlm
    have hle : m.length ≤ l.length := by omega
    clear hlm
    go_enter Tryz.func38, Tryz.ntmps38
    go_wp2
    go_loopw [5] (fun i wr => ∃ k : Nat, k ≤ l.length ∧ i = .int .i64 k ∧ PairsTo sameS l m k ∧ Below w.heap.size w wr) (fun i _ => l.length - (intOf i).toNat)
    case atStart => exact ⟨0, Nat.zero_le _, rfl, PairsTo.zero _ _ _, Below.refl _ _⟩
    case round =>
      obtain ⟨k, hk, rfl, hst, hb⟩ := hrel
      by_cases hlt : k < l.length
      · obtain ⟨x, hx⟩ : ∃ x, l[k]? = some x := ⟨l[k], List.getElem?_eq_getElem hlt⟩
        obtain ⟨y, hy⟩ : ∃ y, m[k]? = some y := ⟨m[k]'(by have := HLM.out; omega), List.getElem?_eq_getElem (by have := HLM.out; omega)⟩
        have hltm : (k : Int) < (m.length : Int) := by have := HLM.out; omega
        have hk0 : (0 : Int) ≤ (k : Int) := by omega
        have hk1 : (k : Int) < (l.length : Int) := by omega
        obtain ⟨b, off, u0, rfl, -, hbl, hat, c0⟩ := rows_at1 strD_length HV.out hx
        obtain ⟨b', off', v0, rfl, -, hbl', hat', d0⟩ := rows_at1 strD_length HV'.out hy
        obtain ⟨rfl, hxs⟩ := str_open hat
        obtain ⟨rfl, hys⟩ := str_open hat'
        replace c0 := cell_regrown ((hb.cell (p := ⟨b, off + k, none⟩) hbl).trans c0)
        replace d0 := cell_regrown ((hb.cell (p := ⟨b', off' + k, none⟩) hbl').trans d0)
        have HN := Lib.hid (And.intro hx (And.intro hy hst))
        clear hx hy hst
        cases hs : (x.toList == y.toList)
        all_goals
          have hne : (x.toList != y.toList) = !(x.toList == y.toList) := rfl
          rw [hs] at hne
          have HS := Lib.hid hs
          go_wp2_with fail
          refine wp_region_quiet_below (by kernel_rfl) (by kernel_rfl) ?_
          repeat (quiet_step (fail))
          refine wpQuiet_nil ?_
          intro w2 hw2
          have hb2 := hb.trans ((below_of_regrown hw2).mono hb.size)
          clear hw2 c0 d0
        · have HB := Lib.hid (pairs_bad (q := sameS) HN.out.1 HN.out.2.1 HS.out)
          go_wp2
          go_ret
          exact ⟨ret_eq (by rw [HB.out]; rfl), hb2⟩
        · have HB := Lib.hid (HN.out.2.2.next HN.out.1 HN.out.2.1 HS.out)
          go_wp2
          go_roundw
          case rel => exact ⟨k + 1, by omega, by go_num, HB.out, hb2⟩
          case measure => simp [intOf]; omega
      · obtain rfl : k = l.length := by omega
        have HB := Lib.hid (PairsTo.end_ HLM.out hst)
        go_wp2
        go_ret
        exact ⟨ret_eq (by rw [HB.out]; rfl), hb⟩
  · have g1 : ((l.length : Int) != (m.length : Int)) = true := by rw [bne_iff_ne]; omega
    rw [pairs_len hlm]
    go_enter Tryz.func38, Tryz.ntmps38
    go_wp2
    go_ret
    exact ⟨rfl, Below.refl _ _⟩
end Go.Proofs.YtcpadaelgdmipaaGreatDoor
namespace Go.Proofs.YtcpadaelgdmipaaGreatDoor
open Go.RowKit

def SzValue (x : Va) : Prop := ∀ (cs : List Value) (a : Int) (w : World), D.Ats w anyB x.ds cs → 0 ≤ a → a ≤ 1048576 →
  Calls Tryz.prog 5 #[.agg cs.toArray, .int .i64 a] w fun e w' => e = .returned (.int .i64 (left a (D.totals x.ds))) ∧ Below w.heap.size w w'

set_option maxHeartbeats 1000000 in
theorem szValueS_w (l : List Va) (hl : ∀ x ∈ l, SzValue x) (v : Value) (a : Int) (w : World) (hv : D.At w anyB (rows Va.ds 4 l) v) (h0 : 0 ≤ a) (h1 : a ≤ 1048576) :
    Calls Tryz.prog 21 #[v, .int .i64 a] w fun e w' => e = .returned (.int .i64 (left a (rows Va.ds 4 l).total)) ∧ Below w.heap.size w w' := by
  obtain ⟨A, cap, rfl, hn, hc⟩ := rows_form Va.len hv
  unfold maxLen at hc
  have HV := Lib.hid hv
  have HL := Lib.hid hl
  clear hv hl
  rw [rows_total]
  by_cases hlen : (l.length : Int) ≤ a
  · go_enter Tryz.func21, Tryz.ntmps21
    go_wp2
    go_loopw [1, 5] (fun a' i wr => ∃ (k : Nat) (q : Int), k ≤ l.length ∧ i = .int .i64 k ∧ a' = .int .i64 q ∧ q = a - l.length - (D.totals ((l.take k).flatMap Va.ds) : Int) ∧ 0 ≤ q ∧ Below w.heap.size w wr) (fun _ i _ => l.length - (intOf i).toNat)
    case atStart => exact ⟨0, _, Nat.zero_le _, rfl, rfl, by simp [D.totals], by omega, Below.refl _ _⟩
    case round =>
      obtain ⟨k, q, hk, rfl, rfl, hq, hq0, hb⟩ := hrel
      have HQ := Lib.hid hq
      have hq1 : q ≤ 1048576 := by omega
      clear hq
      by_cases hlt : k < l.length
      · obtain ⟨x, hx⟩ : ∃ x, l[k]? = some x := ⟨l[k], List.getElem?_eq_getElem hlt⟩
        obtain ⟨b, off, u0, u1, u2, u3, rfl, -, hbl, hat, c0, c1, c2, c3⟩ := rows_at4 Va.len HV.out hx
        replace c0 := (hb.cell (p := ⟨b, off + k * 4, none⟩) hbl).trans c0
        replace c1 := (hb.cell (p := ⟨b, off + k * 4 + 1, none⟩) hbl).trans c1
        replace c2 := (hb.cell (p := ⟨b, off + k * 4 + 2, none⟩) hbl).trans c2
        replace c3 := (hb.cell (p := ⟨b, off + k * 4 + 3, none⟩) hbl).trans c3
        have hxm : x ∈ l := List.mem_of_getElem? hx
        have ht : D.totals ((l.take (k + 1)).flatMap Va.ds) = D.totals ((l.take k).flatMap Va.ds) + D.totals x.ds := by rw [take_next hx, D.totals_append]
        have htl := totals_take (f := Va.ds) l (k + 1)
        have HT := Lib.hid (And.intro ht htl)
        clear ht htl hx
        go_wp2_with fail
        refine (HL.out x hxm _ q _ (hat.below hb) hq0 hq1).mono ?_
        rintro e w1 ⟨rfl, hb1⟩
        have hb2 := hb.trans (hb1.mono hb.size)
        clear hb hb1 c0 c1 c2 c3
        by_cases hle : (D.totals x.ds : Int) ≤ q
        · have hg : 0 ≤ q - (D.totals x.ds : Int) := by omega
          rw [left_yes hle]
          go_wp2
          go_roundw
          case rel =>
            refine ⟨k + 1, q - D.totals x.ds, by omega, by go_num, rfl, ?_, hg, hb2⟩
            rw [HT.out.1, HQ.out]; omega
          case measure => simp [intOf]; omega
        · rw [left_no hle]
          go_wp2
          go_ret
          refine ⟨ret_eq ?_, hb2⟩
          rw [left_no (by have := HT.out; have := HQ.out; omega)]
          rfl
      · go_wp2
        go_ret
        refine ⟨ret_eq ?_, hb⟩
        have hk' : l.take k = l := List.take_of_length_le (by omega)
        have e := HQ.out
        rw [hk'] at e
        have e2 : left a (l.length + D.totals (l.flatMap Va.ds)) = q := by rw [left_yes (by omega)]; omega
        rw [e2]
        rfl
  · rw [left_no (by omega)]
    go_enter Tryz.func21, Tryz.ntmps21
    go_wp2
    go_ret
    exact ⟨rfl, Below.refl _ _⟩

set_option maxHeartbeats 1000000 in
theorem szValue_w (x : Va) : SzValue x := by
  refine Va.ind (fun k m t kids ih => ?_) x
  intro cs a w hcs h0 h1
  obtain ⟨AA, Ac, rfl, iA0, iA1, zA2, sA3⟩ := Va.open_ hcs
  have hT : D.totals (Va.mk k m t kids).ds = t.size + (rows Va.ds 4 kids).total := by simp [Va.ds_eq, D.totals, D.total]
  have HT := Lib.hid hT
  have IH := Lib.hid ih
  have H3 := Lib.hid sA3
  unfold maxLen at zA2
  clear hT ih sA3
  by_cases g2 : (t.size : Int) ≤ a
  · skip
    go_enter Tryz.func5, Tryz.ntmps5
    go_wp2_with fail
    refine (szValueS_w kids IH.out _ _ _ (H3.out.below (by repeat (first | exact Below.refl _ _ | refine Below.alloc ?_ (by first | omega | (simp <;> omega)) _))) (by omega) (by omega)).mono ?_
    rintro e w1 ⟨rfl, hb1⟩
    obtain ⟨B1, bA⟩ := box1 (cA := [_, _, _, _]) hb1
    clear hb1
    have c := bA.cell
    by_cases g3 : ((rows Va.ds 4 kids).total : Int) ≤ a - (t.size : Int)
    · rw [left_yes g3]
      have e3 : ¬ (a - (t.size : Int) - ((rows Va.ds 4 kids).total : Int) < 0) := by omega
      go_wp2
      go_ret
      have e9 : left a (D.totals (Va.mk k m t kids).ds) = a - (t.size : Int) - ((rows Va.ds 4 kids).total : Int) := by rw [left_yes (by rw [HT.out]; omega), HT.out]; first | done | omega
      exact ⟨ret_eq (by rw [e9]; try rfl), B1⟩
    · rw [left_no g3]
      go_wp2
      go_ret
      exact ⟨ret_eq (by rw [left_no (by rw [HT.out]; omega)]; try rfl), B1⟩
  · skip
    go_enter Tryz.func5, Tryz.ntmps5
    go_wp2
    go_ret
    exact ⟨ret_eq (by rw [left_no (by rw [HT.out]; omega)]; try rfl), (by repeat (first | exact Below.refl _ _ | refine Below.alloc ?_ (by first | omega | (simp <;> omega)) _))⟩

def ToValue (x : Va) : Prop := ∀ (cs : List Value) (w : World), D.Ats w anyB x.ds cs → D.totals x.ds ≤ 1048576 → Calls Tryz.prog 8 #[.agg cs.toArray] w (RetDs x.ds w)

theorem info_iValue : (Tryz.prog.info? 34).map (fun i => (i.zero, i.size, i.bytes)) = some (some (.agg #[.int .i64 0, .int .i64 0, .string ⟨#[]⟩, .slice none 0 0]), 4, 56) := by kernel_rfl

set_option maxHeartbeats 1000000 in
theorem toValueS_w (l : List Va) (hl : ∀ x ∈ l, ToValue x) (v : Value) (w : World) (hv : D.At w anyB (rows Va.ds 4 l) v) (ht : (rows Va.ds 4 l).total ≤ 1048576) :
    Calls Tryz.prog 28 #[v] w (RetD (rows Va.ds 4 l) w) := by
  obtain ⟨A, cap, rfl, hn, hc⟩ := rows_form Va.len hv
  unfold maxLen at hc
  rw [rows_total] at ht
  have HV := Lib.hid hv
  have HL := Lib.hid hl
  obtain ⟨i0, hi, hz0, hz1, hz2⟩ := info_parts info_iValue
  obtain ⟨cur, hcs, hmk⟩ := make_fact (P := Tryz.prog) Tryz.underlying32 hi hz0 hz1 hz2 l.length (by omega) (by omega) w
  have HC := Lib.hid (Filled.start w cur 34 4 l.length hcs)
  clear hv hl hi hz0 hz1 hz2 hcs
  go_enter Tryz.func28, Tryz.ntmps28
  go_wp2
  go_loopw [4] (fun i wr => ∃ k : Nat, k ≤ l.length ∧ i = .int .i64 k ∧ Filled w wr w.heap.size 34 4 l.length k ((l.take k).flatMap Va.ds)) (fun i _ => l.length - (intOf i).toNat)
  case atStart => exact ⟨0, Nat.zero_le _, rfl, HC.out⟩
  case round =>
    obtain ⟨k, hk, rfl, hf⟩ := hrel
    have hb := hf.below
    by_cases hlt : k < l.length
    · obtain ⟨x, hx⟩ : ∃ x, l[k]? = some x := ⟨l[k], List.getElem?_eq_getElem hlt⟩
      obtain ⟨b, off, u0, u1, u2, u3, rfl, -, hbl, hat, c0, c1, c2, c3⟩ := rows_at4 Va.len HV.out hx
      replace c0 := (hb.cell (p := ⟨b, off + k * 4, none⟩) hbl).trans c0
      replace c1 := (hb.cell (p := ⟨b, off + k * 4 + 1, none⟩) hbl).trans c1
      replace c2 := (hb.cell (p := ⟨b, off + k * 4 + 2, none⟩) hbl).trans c2
      replace c3 := (hb.cell (p := ⟨b, off + k * 4 + 3, none⟩) hbl).trans c3
      have hxm : x ∈ l := List.mem_of_getElem? hx
      have hxt := totals_mem (f := Va.ds) hxm
      have HD := Lib.hid (take_next (f := Va.ds) hx)
      clear hx
      go_wp2_with fail
      refine (HL.out x hxm _ _ (hat.below hb) (by omega)).mono ?_
      rintro e w1 ⟨cs, rfl, hcs, hb1⟩
      have hf1 := hf.call hb1
      have hcs' : D.Ats w1 (fun b => w.heap.size < b) x.ds cs := hcs.weaken (fun b hb' => Nat.lt_of_lt_of_le hf.lt hb')
      clear hcs hb1 c0 c1 c2 c3 hf hb
      obtain ⟨F0, F1, F2, F3A, F3m, F3c, rfl⟩ := Va.form hcs'
      obtain ⟨o0, p0, q0⟩ := hf1.cells (k * 4) (by omega)
      obtain ⟨o1, p1, q1⟩ := hf1.cells (k * 4 + 1) (by omega)
      obtain ⟨o2, p2, q2⟩ := hf1.cells (k * 4 + 2) (by omega)
      obtain ⟨o3, p3, q3⟩ := hf1.cells (k * 4 + 3) (by omega)
      have HF := Lib.hid (hf1.store hlt rfl hcs')
      clear hf1 hcs'
      go_wp2
      go_roundw
      case rel => exact ⟨k + 1, by omega, by go_num, by rw [HD.out]; exact HF.out⟩
      case measure => simp [intOf]; omega
    · obtain rfl : k = l.length := by omega
      have hd := hf.done (by unfold maxLen; omega)
      have HF := Lib.hid (And.intro hd hb)
      clear hd hb hf
      go_wp2
      go_ret
      refine ⟨_, rfl, ?_, HF.out.2⟩
      have := HF.out.1
      rw [List.take_length] at this
      exact this

set_option maxHeartbeats 1000000 in
theorem toValue_w (x : Va) : ToValue x := by
  refine Va.ind (fun k m t kids ih => ?_) x
  intro cs w hcs htot
  obtain ⟨AA, Ac, rfl, iA0, iA1, zA2, sA3⟩ := Va.open_ hcs
  have hT : D.totals (Va.mk k m t kids).ds = t.size + (rows Va.ds 4 kids).total := by simp [Va.ds_eq, D.totals, D.total]
  rw [hT] at htot
  have IH := Lib.hid ih
  have H3 := Lib.hid sA3
  have KiA0 := Lib.hid iA0
  have KiA1 := Lib.hid iA1
  have KzA2 := Lib.hid zA2
  clear hT ih sA3 iA0 iA1 zA2
  go_enter Tryz.func8, Tryz.ntmps8
  go_wp2_with fail
  refine (toValueS_w kids IH.out _ _ (H3.out.below (by repeat (first | exact Below.refl _ _ | refine Below.alloc ?_ (by first | omega | (simp <;> omega)) _))) (by omega)).mono ?_
  rintro e w1 ⟨r1, rfl, q1, hb1⟩
  obtain ⟨R1A, R1c, rfl, -, -⟩ := rows_form Va.len q1
  obtain ⟨B1, bA, bB, bC⟩ := box3 (cA := [_, _, _, _]) (cB := [_, _, _, _]) (cC := [_, _, _, _]) hb1
  replace q1 := q1.weaken (S' := fun b => w.heap.size + 2 < b) (fun b hb => by simp at hb; omega)
  clear hb1
  have c := bA.cell
  have f := bC.cell
  have fz := bC.frozen
  have zz := bC.lt
  have Q1 := Lib.hid q1
  clear q1
  have b := bB.cell
  have bz := bB.frozen
  go_wp2
  refine bodyPost_ret (v := .agg #[.int .i64 k, .int .i64 m, .string t, .slice R1A kids.length R1c]) (by simp [results, Tryz.results8, go_sem, b]) rfl ⟨[.int .i64 k, .int .i64 m, .string t, .slice R1A kids.length R1c], rfl, ?_, ?_⟩
  · refine D.Ats.weaken (S := fun b => w.heap.size + 2 < b) ?_ (fun b hb => by omega)
    repeat (refine D.Ats.set ?_ (by simp <;> omega) _)
    have p1 := Q1.out
    exact Va.mk_ KiA0.out KiA1.out KzA2.out p1
  · repeat (refine Below.setCell ?_ (by simp <;> omega) _)
    exact B1

set_option maxHeartbeats 1000000 in
theorem eqValueS_w (l m : List Va) (hl : ∀ x ∈ l, IsQ 12 Va.ds Va.same x) (v v' : Value) (w : World) (hv : D.At w anyB (rows Va.ds 4 l) v) (hv' : D.At w anyB (rows Va.ds 4 m) v') :
    Calls Tryz.prog 37 #[v, v'] w fun e w' => e = .returned (.bool (pairs Va.same l m)) ∧ Below w.heap.size w w' := by
  obtain ⟨A, cap, rfl, hn, hc⟩ := rows_form Va.len hv
  obtain ⟨A', cap', rfl, hn', hc'⟩ := rows_form Va.len hv'
  unfold maxLen at hc hc'
  have HV := Lib.hid hv
  have HV' := Lib.hid hv'
  have HL := Lib.hid hl
  clear hv hv' hl
  by_cases hlm : l.length = m.length
  · have g1 : ((l.length : Int) != (m.length : Int)) = false := by simp [hlm]
    have HLM := Lib.hid hlm
    have hle : m.length ≤ l.length := by omega
    clear hlm
    go_enter Tryz.func37, Tryz.ntmps37
    go_wp2
    go_loopw [5] (fun i wr => ∃ k : Nat, k ≤ l.length ∧ i = .int .i64 k ∧ PairsTo Va.same l m k ∧ Below w.heap.size w wr) (fun i _ => l.length - (intOf i).toNat)
    case atStart => exact ⟨0, Nat.zero_le _, rfl, PairsTo.zero _ _ _, Below.refl _ _⟩
    case round =>
      obtain ⟨k, hk, rfl, hst, hb⟩ := hrel
      by_cases hlt : k < l.length
      · obtain ⟨x, hx⟩ : ∃ x, l[k]? = some x := ⟨l[k], List.getElem?_eq_getElem hlt⟩
        obtain ⟨y, hy⟩ : ∃ y, m[k]? = some y := ⟨m[k]'(by have := HLM.out; omega), List.getElem?_eq_getElem (by have := HLM.out; omega)⟩
        have hltm : (k : Int) < (m.length : Int) := by have := HLM.out; omega
        have hk0 : (0 : Int) ≤ (k : Int) := by omega
        have hk1 : (k : Int) < (l.length : Int) := by omega
        obtain ⟨b, off, u0, u1, u2, u3, rfl, -, hbl, hat, c0, c1, c2, c3⟩ := rows_at4 Va.len HV.out hx
        obtain ⟨b', off', v0, v1, v2, v3, rfl, -, hbl', hat', d0, d1, d2, d3⟩ := rows_at4 Va.len HV'.out hy
        replace c0 := cell_regrown ((hb.cell (p := ⟨b, off + k * 4, none⟩) hbl).trans c0)
        replace c1 := cell_regrown ((hb.cell (p := ⟨b, off + k * 4 + 1, none⟩) hbl).trans c1)
        replace c2 := cell_regrown ((hb.cell (p := ⟨b, off + k * 4 + 2, none⟩) hbl).trans c2)
        replace c3 := cell_regrown ((hb.cell (p := ⟨b, off + k * 4 + 3, none⟩) hbl).trans c3)
        replace d0 := cell_regrown ((hb.cell (p := ⟨b', off' + k * 4, none⟩) hbl').trans d0)
        replace d1 := cell_regrown ((hb.cell (p := ⟨b', off' + k * 4 + 1, none⟩) hbl').trans d1)
        replace d2 := cell_regrown ((hb.cell (p := ⟨b', off' + k * 4 + 2, none⟩) hbl').trans d2)
        replace d3 := cell_regrown ((hb.cell (p := ⟨b', off' + k * 4 + 3, none⟩) hbl').trans d3)
        have hxm : x ∈ l := List.mem_of_getElem? hx
        have HN := Lib.hid (And.intro hx (And.intro hy hst))
        clear hx hy hst
        go_wp2_with fail
        refine wp_region_quiet_below (by kernel_rfl) (by kernel_rfl) ?_
        repeat (quiet_step (exact Calls.regrown_of (HL.out x hxm y _ _ _ ((hat.below hb).below (below_regrown _ _ _)) ((hat'.below hb).below (below_regrown _ _ _)))))
        refine wpQuiet_nil ?_
        intro w2 hw2
        have hb2 := hb.trans ((below_of_regrown hw2).mono hb.size)
        clear hw2 c0 c1 c2 c3 d0 d1 d2 d3
        cases hs : Va.same x y
        · have HB := Lib.hid (pairs_bad HN.out.1 HN.out.2.1 hs)
          go_wp2
          go_ret
          exact ⟨ret_eq (by rw [HB.out]; rfl), hb2⟩
        · have HB := Lib.hid (HN.out.2.2.next HN.out.1 HN.out.2.1 hs)
          go_wp2
          go_roundw
          case rel => exact ⟨k + 1, by omega, by go_num, HB.out, hb2⟩
          case measure => simp [intOf]; omega
      · obtain rfl : k = l.length := by omega
        have HB := Lib.hid (PairsTo.end_ HLM.out hst)
        go_wp2
        go_ret
        exact ⟨ret_eq (by rw [HB.out]; rfl), hb⟩
  · have g1 : ((l.length : Int) != (m.length : Int)) = true := by rw [bne_iff_ne]; omega
    rw [pairs_len hlm]
    go_enter Tryz.func37, Tryz.ntmps37
    go_wp2
    go_ret
    exact ⟨rfl, Below.refl _ _⟩

set_option maxHeartbeats 1000000 in
theorem eqValue_w (x : Va) : IsQ 12 Va.ds Va.same x := by
  refine Va.ind (fun k m t kids ih => ?_) x
  intro y cs cs' w hcs hcs'
  obtain ⟨k', m', t', kids'⟩ := y
  obtain ⟨AA, Ac, rfl, iA0, iA1, zA2, sA3⟩ := Va.open_ hcs
  obtain ⟨BA, Bc, rfl, iB0, iB1, zB2, sB3⟩ := Va.open_ hcs'
  have hE : Va.same (Va.mk k m t kids) (Va.mk k' m' t' kids') = ((k == k') && ((m == m') && ((t.toList == t'.toList) && (pairs Va.same kids kids')))) := Va.same_eq _ _ _ _ _ _ _ _
  have HE := Lib.hid hE
  have IH := Lib.hid ih
  have H3 := Lib.hid (And.intro sA3 sB3)
  clear hE ih iA0 iB0 iA1 iB1 zA2 zB2 sA3 sB3
  show Calls Tryz.prog 12 _ _ (fun e w' => e = .returned (.bool (Va.same (Va.mk k m t kids) (Va.mk k' m' t' kids'))) ∧ Below w.heap.size w w')
  cases h0 : (k == k')
  · have g0 : (k != k') = true := by simp [bne, h0]
    have E0 := Lib.hid h0
    go_enter Tryz.func12, Tryz.ntmps12
    go_wp2
    go_ret
    exact ⟨ret_eq (by rw [HE.out, E0.out]; try rfl), (by repeat (first | exact Below.refl _ _ | refine Below.alloc ?_ (by first | omega | (simp <;> omega)) _))⟩
  · have g0 : (k != k') = false := by simp [bne, h0]
    have E0 := Lib.hid h0
    cases h1 : (m == m')
    · have g1 : (m != m') = true := by simp [bne, h1]
      have E1 := Lib.hid h1
      go_enter Tryz.func12, Tryz.ntmps12
      go_wp2
      go_ret
      exact ⟨ret_eq (by rw [HE.out, E0.out, E1.out]; try rfl), (by repeat (first | exact Below.refl _ _ | refine Below.alloc ?_ (by first | omega | (simp <;> omega)) _))⟩
    · have g1 : (m != m') = false := by simp [bne, h1]
      have E1 := Lib.hid h1
      cases h2 : (t.toList == t'.toList)
      · have g2 : (t.toList != t'.toList) = true := by simp [bne, h2]
        have E2 := Lib.hid h2
        go_enter Tryz.func12, Tryz.ntmps12
        go_wp2
        go_ret
        exact ⟨ret_eq (by rw [HE.out, E0.out, E1.out, E2.out]; try rfl), (by repeat (first | exact Below.refl _ _ | refine Below.alloc ?_ (by first | omega | (simp <;> omega)) _))⟩
      · have g2 : (t.toList != t'.toList) = false := by simp [bne, h2]
        have E2 := Lib.hid h2
        go_enter Tryz.func12, Tryz.ntmps12
        go_wp2_with fail
        refine (eqValueS_w kids kids' IH.out _ _ _ (H3.out.1.below (by repeat (first | exact Below.refl _ _ | refine Below.alloc ?_ (by first | omega | (simp <;> omega)) _))) (H3.out.2.below (by repeat (first | exact Below.refl _ _ | refine Below.alloc ?_ (by first | omega | (simp <;> omega)) _)))).mono ?_
        rintro e w1 ⟨rfl, hb1⟩
        obtain ⟨B1, bA, bB⟩ := box2 (cA := [_, _, _, _]) (cB := [_, _, _, _]) hb1
        clear hb1
        have c := bA.cell
        have d := bB.cell
        cases h3 : pairs Va.same kids kids'
        · have E3 := Lib.hid h3
          clear h3
          go_wp2
          go_ret
          exact ⟨ret_eq (by rw [HE.out, E0.out, E1.out, E2.out, E3.out]; try rfl), B1⟩
        · have E3 := Lib.hid h3
          clear h3
          go_wp2
          go_ret
          exact ⟨ret_eq (by rw [HE.out, E0.out, E1.out, E2.out, E3.out]; try rfl), B1⟩

end Go.Proofs.YtcpadaelgdmipaaGreatDoor
namespace Go.Proofs.YtcpadaelgdmipaaGreatDoor
open Go.RowKit

def SzType (x : Ty) : Prop := ∀ (cs : List Value) (a : Int) (w : World), D.Ats w anyB x.ds cs → 0 ≤ a → a ≤ 1048576 →
  Calls Tryz.prog 6 #[.agg cs.toArray, .int .i64 a] w fun e w' => e = .returned (.int .i64 (left a (D.totals x.ds))) ∧ Below w.heap.size w w'

set_option maxHeartbeats 1000000 in
theorem szTypeS_w (l : List Ty) (hl : ∀ x ∈ l, SzType x) (v : Value) (a : Int) (w : World) (hv : D.At w anyB (rows Ty.ds 4 l) v) (h0 : 0 ≤ a) (h1 : a ≤ 1048576) :
    Calls Tryz.prog 23 #[v, .int .i64 a] w fun e w' => e = .returned (.int .i64 (left a (rows Ty.ds 4 l).total)) ∧ Below w.heap.size w w' := by
  obtain ⟨A, cap, rfl, hn, hc⟩ := rows_form Ty.len hv
  unfold maxLen at hc
  have HV := Lib.hid hv
  have HL := Lib.hid hl
  clear hv hl
  rw [rows_total]
  by_cases hlen : (l.length : Int) ≤ a
  · go_enter Tryz.func23, Tryz.ntmps23
    go_wp2
    go_loopw [1, 5] (fun a' i wr => ∃ (k : Nat) (q : Int), k ≤ l.length ∧ i = .int .i64 k ∧ a' = .int .i64 q ∧ q = a - l.length - (D.totals ((l.take k).flatMap Ty.ds) : Int) ∧ 0 ≤ q ∧ Below w.heap.size w wr) (fun _ i _ => l.length - (intOf i).toNat)
    case atStart => exact ⟨0, _, Nat.zero_le _, rfl, rfl, by simp [D.totals], by omega, Below.refl _ _⟩
    case round =>
      obtain ⟨k, q, hk, rfl, rfl, hq, hq0, hb⟩ := hrel
      have HQ := Lib.hid hq
      have hq1 : q ≤ 1048576 := by omega
      clear hq
      by_cases hlt : k < l.length
      · obtain ⟨x, hx⟩ : ∃ x, l[k]? = some x := ⟨l[k], List.getElem?_eq_getElem hlt⟩
        obtain ⟨b, off, u0, u1, u2, u3, rfl, -, hbl, hat, c0, c1, c2, c3⟩ := rows_at4 Ty.len HV.out hx
        replace c0 := (hb.cell (p := ⟨b, off + k * 4, none⟩) hbl).trans c0
        replace c1 := (hb.cell (p := ⟨b, off + k * 4 + 1, none⟩) hbl).trans c1
        replace c2 := (hb.cell (p := ⟨b, off + k * 4 + 2, none⟩) hbl).trans c2
        replace c3 := (hb.cell (p := ⟨b, off + k * 4 + 3, none⟩) hbl).trans c3
        have hxm : x ∈ l := List.mem_of_getElem? hx
        have ht : D.totals ((l.take (k + 1)).flatMap Ty.ds) = D.totals ((l.take k).flatMap Ty.ds) + D.totals x.ds := by rw [take_next hx, D.totals_append]
        have htl := totals_take (f := Ty.ds) l (k + 1)
        have HT := Lib.hid (And.intro ht htl)
        clear ht htl hx
        go_wp2_with fail
        refine (HL.out x hxm _ q _ (hat.below hb) hq0 hq1).mono ?_
        rintro e w1 ⟨rfl, hb1⟩
        have hb2 := hb.trans (hb1.mono hb.size)
        clear hb hb1 c0 c1 c2 c3
        by_cases hle : (D.totals x.ds : Int) ≤ q
        · have hg : 0 ≤ q - (D.totals x.ds : Int) := by omega
          rw [left_yes hle]
          go_wp2
          go_roundw
          case rel =>
            refine ⟨k + 1, q - D.totals x.ds, by omega, by go_num, rfl, ?_, hg, hb2⟩
            rw [HT.out.1, HQ.out]; omega
          case measure => simp [intOf]; omega
        · rw [left_no hle]
          go_wp2
          go_ret
          refine ⟨ret_eq ?_, hb2⟩
          rw [left_no (by have := HT.out; have := HQ.out; omega)]
          rfl
      · go_wp2
        go_ret
        refine ⟨ret_eq ?_, hb⟩
        have hk' : l.take k = l := List.take_of_length_le (by omega)
        have e := HQ.out
        rw [hk'] at e
        have e2 : left a (l.length + D.totals (l.flatMap Ty.ds)) = q := by rw [left_yes (by omega)]; omega
        rw [e2]
        rfl
  · rw [left_no (by omega)]
    go_enter Tryz.func23, Tryz.ntmps23
    go_wp2
    go_ret
    exact ⟨rfl, Below.refl _ _⟩

set_option maxHeartbeats 1000000 in
theorem szType_w (x : Ty) : SzType x := by
  refine Ty.ind (fun k n l kids ih => ?_) x
  intro cs a w hcs h0 h1
  obtain ⟨AA, Ac, AA', Ac', rfl, iA0, zA1, sA2, sA3⟩ := Ty.open_ hcs
  have hT : D.totals (Ty.mk k n l kids).ds = n.size + (strs l).total + (rows Ty.ds 4 kids).total := by simp [Ty.ds_eq, D.totals, D.total] <;> omega
  have HT := Lib.hid hT
  have IH := Lib.hid ih
  have H2 := Lib.hid sA2
  have H3 := Lib.hid sA3
  unfold maxLen at zA1
  clear hT ih sA2 sA3
  by_cases g1 : (n.size : Int) ≤ a
  · skip
    go_enter Tryz.func6, Tryz.ntmps6
    go_wp2_with fail
    refine (szStringS_w l _ _ _ (H2.out.below (by repeat (first | exact Below.refl _ _ | refine Below.alloc ?_ (by first | omega | (simp <;> omega)) _))) (by omega) (by omega)).mono ?_
    rintro e w1 ⟨rfl, hb1⟩
    obtain ⟨B1, bA⟩ := box1 (cA := [_, _, _, _]) hb1
    clear hb1
    have c := bA.cell
    by_cases g2 : ((strs l).total : Int) ≤ a - (n.size : Int)
    · rw [left_yes g2]
      have e2 : ¬ (a - (n.size : Int) - ((strs l).total : Int) < 0) := by omega
      go_wp2_with fail
      refine (szTypeS_w kids IH.out _ _ _ (H3.out.below B1) (by omega) (by omega)).mono ?_
      rintro e w2 ⟨rfl, hb2⟩
      have B2 := B1.trans (hb2.mono B1.size)
      replace bA := bA.call hb2
      clear c
      clear hb2 B1
      have c := bA.cell
      by_cases g3 : ((rows Ty.ds 4 kids).total : Int) ≤ a - (n.size : Int) - ((strs l).total : Int)
      · rw [left_yes g3]
        have e3 : ¬ (a - (n.size : Int) - ((strs l).total : Int) - ((rows Ty.ds 4 kids).total : Int) < 0) := by omega
        go_wp2
        go_ret
        have e9 : left a (D.totals (Ty.mk k n l kids).ds) = a - (n.size : Int) - ((strs l).total : Int) - ((rows Ty.ds 4 kids).total : Int) := by rw [left_yes (by rw [HT.out]; omega), HT.out]; first | done | omega
        exact ⟨ret_eq (by rw [e9]; try rfl), B2⟩
      · rw [left_no g3]
        go_wp2
        go_ret
        exact ⟨ret_eq (by rw [left_no (by rw [HT.out]; omega)]; try rfl), B2⟩
    · rw [left_no g2]
      go_wp2
      go_ret
      exact ⟨ret_eq (by rw [left_no (by rw [HT.out]; omega)]; try rfl), B1⟩
  · skip
    go_enter Tryz.func6, Tryz.ntmps6
    go_wp2
    go_ret
    exact ⟨ret_eq (by rw [left_no (by rw [HT.out]; omega)]; try rfl), (by repeat (first | exact Below.refl _ _ | refine Below.alloc ?_ (by first | omega | (simp <;> omega)) _))⟩

def ToType (x : Ty) : Prop := ∀ (cs : List Value) (w : World), D.Ats w anyB x.ds cs → D.totals x.ds ≤ 1048576 → Calls Tryz.prog 9 #[.agg cs.toArray] w (RetDs x.ds w)

theorem info_iType : (Tryz.prog.info? 40).map (fun i => (i.zero, i.size, i.bytes)) = some (some (.agg #[.int .i64 0, .string ⟨#[]⟩, .slice none 0 0, .slice none 0 0]), 4, 72) := by kernel_rfl

set_option maxHeartbeats 1000000 in
theorem toTypeS_w (l : List Ty) (hl : ∀ x ∈ l, ToType x) (v : Value) (w : World) (hv : D.At w anyB (rows Ty.ds 4 l) v) (ht : (rows Ty.ds 4 l).total ≤ 1048576) :
    Calls Tryz.prog 30 #[v] w (RetD (rows Ty.ds 4 l) w) := by
  obtain ⟨A, cap, rfl, hn, hc⟩ := rows_form Ty.len hv
  unfold maxLen at hc
  rw [rows_total] at ht
  have HV := Lib.hid hv
  have HL := Lib.hid hl
  obtain ⟨i0, hi, hz0, hz1, hz2⟩ := info_parts info_iType
  obtain ⟨cur, hcs, hmk⟩ := make_fact (P := Tryz.prog) Tryz.underlying38 hi hz0 hz1 hz2 l.length (by omega) (by omega) w
  have HC := Lib.hid (Filled.start w cur 40 4 l.length hcs)
  clear hv hl hi hz0 hz1 hz2 hcs
  go_enter Tryz.func30, Tryz.ntmps30
  go_wp2
  go_loopw [4] (fun i wr => ∃ k : Nat, k ≤ l.length ∧ i = .int .i64 k ∧ Filled w wr w.heap.size 40 4 l.length k ((l.take k).flatMap Ty.ds)) (fun i _ => l.length - (intOf i).toNat)
  case atStart => exact ⟨0, Nat.zero_le _, rfl, HC.out⟩
  case round =>
    obtain ⟨k, hk, rfl, hf⟩ := hrel
    have hb := hf.below
    by_cases hlt : k < l.length
    · obtain ⟨x, hx⟩ : ∃ x, l[k]? = some x := ⟨l[k], List.getElem?_eq_getElem hlt⟩
      obtain ⟨b, off, u0, u1, u2, u3, rfl, -, hbl, hat, c0, c1, c2, c3⟩ := rows_at4 Ty.len HV.out hx
      replace c0 := (hb.cell (p := ⟨b, off + k * 4, none⟩) hbl).trans c0
      replace c1 := (hb.cell (p := ⟨b, off + k * 4 + 1, none⟩) hbl).trans c1
      replace c2 := (hb.cell (p := ⟨b, off + k * 4 + 2, none⟩) hbl).trans c2
      replace c3 := (hb.cell (p := ⟨b, off + k * 4 + 3, none⟩) hbl).trans c3
      have hxm : x ∈ l := List.mem_of_getElem? hx
      have hxt := totals_mem (f := Ty.ds) hxm
      have HD := Lib.hid (take_next (f := Ty.ds) hx)
      clear hx
      go_wp2_with fail
      refine (HL.out x hxm _ _ (hat.below hb) (by omega)).mono ?_
      rintro e w1 ⟨cs, rfl, hcs, hb1⟩
      have hf1 := hf.call hb1
      have hcs' : D.Ats w1 (fun b => w.heap.size < b) x.ds cs := hcs.weaken (fun b hb' => Nat.lt_of_lt_of_le hf.lt hb')
      clear hcs hb1 c0 c1 c2 c3 hf hb
      obtain ⟨F0, F1, F2A, F2m, F2c, F3A, F3m, F3c, rfl⟩ := Ty.form hcs'
      obtain ⟨o0, p0, q0⟩ := hf1.cells (k * 4) (by omega)
      obtain ⟨o1, p1, q1⟩ := hf1.cells (k * 4 + 1) (by omega)
      obtain ⟨o2, p2, q2⟩ := hf1.cells (k * 4 + 2) (by omega)
      obtain ⟨o3, p3, q3⟩ := hf1.cells (k * 4 + 3) (by omega)
      have HF := Lib.hid (hf1.store hlt rfl hcs')
      clear hf1 hcs'
      go_wp2
      go_roundw
      case rel => exact ⟨k + 1, by omega, by go_num, by rw [HD.out]; exact HF.out⟩
      case measure => simp [intOf]; omega
    · obtain rfl : k = l.length := by omega
      have hd := hf.done (by unfold maxLen; omega)
      have HF := Lib.hid (And.intro hd hb)
      clear hd hb hf
      go_wp2
      go_ret
      refine ⟨_, rfl, ?_, HF.out.2⟩
      have := HF.out.1
      rw [List.take_length] at this
      exact this

set_option maxHeartbeats 1000000 in
theorem toType_w (x : Ty) : ToType x := by
  refine Ty.ind (fun k n l kids ih => ?_) x
  intro cs w hcs htot
  obtain ⟨AA, Ac, AA', Ac', rfl, iA0, zA1, sA2, sA3⟩ := Ty.open_ hcs
  have hT : D.totals (Ty.mk k n l kids).ds = n.size + (strs l).total + (rows Ty.ds 4 kids).total := by simp [Ty.ds_eq, D.totals, D.total] <;> omega
  rw [hT] at htot
  have IH := Lib.hid ih
  have H2 := Lib.hid sA2
  have H3 := Lib.hid sA3
  have KiA0 := Lib.hid iA0
  have KzA1 := Lib.hid zA1
  clear hT ih sA2 sA3 iA0 zA1
  go_enter Tryz.func9, Tryz.ntmps9
  go_wp2_with fail
  refine (toStringS_w l _ _ (H2.out.below (by repeat (first | exact Below.refl _ _ | refine Below.alloc ?_ (by first | omega | (simp <;> omega)) _))) (by omega)).mono ?_
  rintro e w1 ⟨r1, rfl, q1, hb1⟩
  obtain ⟨R1A, R1c, rfl, -, -⟩ := rows_form strD_length q1
  obtain ⟨B1, bA, bB, bC⟩ := box3 (cA := [_, _, _, _]) (cB := [_, _, _, _]) (cC := [_, _, _, _]) hb1
  replace q1 := q1.weaken (S' := fun b => w.heap.size + 2 < b) (fun b hb => by simp at hb; omega)
  clear hb1
  have c := bA.cell
  have f := bC.cell
  have fz := bC.frozen
  have zz := bC.lt
  have Q1 := Lib.hid q1
  clear q1
  have q_ := True.intro
  clear q_
  have q1 := Q1.out
  clear Q1
  go_wp2_with fail
  refine (toTypeS_w kids IH.out _ _ (H3.out.below (by repeat (first | exact B1 | refine Below.setCell ?_ (by simp <;> omega) _))) (by omega)).mono ?_
  rintro e w2 ⟨r2, rfl, q2, hb2⟩
  obtain ⟨R2A, R2c, rfl, -, -⟩ := rows_form Ty.len q2
  have hsz := hb2.size
  simp at hsz
  have B2 : Below w.heap.size w w2 := Below.trans (by repeat (first | exact B1 | refine Below.setCell ?_ (by simp <;> omega) _)) (hb2.mono (by have := B1.size; simp; omega))
  have lC := bC.lt
  replace bA := (Box.set_ne (bA) (by simp <;> omega) (.slice R1A l.length R1c)).call hb2
  replace bB := (Box.set_ne (bB) (by simp <;> omega) (.slice R1A l.length R1c)).call hb2
  replace bC := ((bC.set 2 (.slice R1A l.length R1c))).call hb2
  simp only [List.set] at bC
  replace q1 := (D.At.set (q1) (by simp <;> omega) (.slice R1A l.length R1c)).below hb2
  replace q2 := q2.weaken (S' := fun b => w.heap.size + 2 < b) (fun b hb => by simp at hb; omega)
  clear hsz lC
  clear hb2 c f fz zz
  clear B1
  have c := bA.cell
  have f := bC.cell
  have fz := bC.frozen
  have zz := bC.lt
  have Q1 := Lib.hid q1
  clear q1
  have Q2 := Lib.hid q2
  clear q2
  have b := bB.cell
  have bz := bB.frozen
  go_wp2
  refine bodyPost_ret (v := .agg #[.int .i64 k, .string n, .slice R1A l.length R1c, .slice R2A kids.length R2c]) (by simp [results, Tryz.results9, go_sem, b]) rfl ⟨[.int .i64 k, .string n, .slice R1A l.length R1c, .slice R2A kids.length R2c], rfl, ?_, ?_⟩
  · refine D.Ats.weaken (S := fun b => w.heap.size + 2 < b) ?_ (fun b hb => by omega)
    repeat (refine D.Ats.set ?_ (by simp <;> omega) _)
    have p1 := Q1.out
    have p2 := Q2.out
    exact Ty.mk_ KiA0.out KzA1.out p1 p2
  · repeat (refine Below.setCell ?_ (by simp <;> omega) _)
    exact B2

set_option maxHeartbeats 1000000 in
theorem eqTypeS_w (l m : List Ty) (hl : ∀ x ∈ l, IsQ 13 Ty.ds Ty.same x) (v v' : Value) (w : World) (hv : D.At w anyB (rows Ty.ds 4 l) v) (hv' : D.At w anyB (rows Ty.ds 4 m) v') :
    Calls Tryz.prog 39 #[v, v'] w fun e w' => e = .returned (.bool (pairs Ty.same l m)) ∧ Below w.heap.size w w' := by
  obtain ⟨A, cap, rfl, hn, hc⟩ := rows_form Ty.len hv
  obtain ⟨A', cap', rfl, hn', hc'⟩ := rows_form Ty.len hv'
  unfold maxLen at hc hc'
  have HV := Lib.hid hv
  have HV' := Lib.hid hv'
  have HL := Lib.hid hl
  clear hv hv' hl
  by_cases hlm : l.length = m.length
  · have g1 : ((l.length : Int) != (m.length : Int)) = false := by simp [hlm]
    have HLM := Lib.hid hlm
    have hle : m.length ≤ l.length := by omega
    clear hlm
    go_enter Tryz.func39, Tryz.ntmps39
    go_wp2
    go_loopw [5] (fun i wr => ∃ k : Nat, k ≤ l.length ∧ i = .int .i64 k ∧ PairsTo Ty.same l m k ∧ Below w.heap.size w wr) (fun i _ => l.length - (intOf i).toNat)
    case atStart => exact ⟨0, Nat.zero_le _, rfl, PairsTo.zero _ _ _, Below.refl _ _⟩
    case round =>
      obtain ⟨k, hk, rfl, hst, hb⟩ := hrel
      by_cases hlt : k < l.length
      · obtain ⟨x, hx⟩ : ∃ x, l[k]? = some x := ⟨l[k], List.getElem?_eq_getElem hlt⟩
        obtain ⟨y, hy⟩ : ∃ y, m[k]? = some y := ⟨m[k]'(by have := HLM.out; omega), List.getElem?_eq_getElem (by have := HLM.out; omega)⟩
        have hltm : (k : Int) < (m.length : Int) := by have := HLM.out; omega
        have hk0 : (0 : Int) ≤ (k : Int) := by omega
        have hk1 : (k : Int) < (l.length : Int) := by omega
        obtain ⟨b, off, u0, u1, u2, u3, rfl, -, hbl, hat, c0, c1, c2, c3⟩ := rows_at4 Ty.len HV.out hx
        obtain ⟨b', off', v0, v1, v2, v3, rfl, -, hbl', hat', d0, d1, d2, d3⟩ := rows_at4 Ty.len HV'.out hy
        replace c0 := cell_regrown ((hb.cell (p := ⟨b, off + k * 4, none⟩) hbl).trans c0)
        replace c1 := cell_regrown ((hb.cell (p := ⟨b, off + k * 4 + 1, none⟩) hbl).trans c1)
        replace c2 := cell_regrown ((hb.cell (p := ⟨b, off + k * 4 + 2, none⟩) hbl).trans c2)
        replace c3 := cell_regrown ((hb.cell (p := ⟨b, off + k * 4 + 3, none⟩) hbl).trans c3)
        replace d0 := cell_regrown ((hb.cell (p := ⟨b', off' + k * 4, none⟩) hbl').trans d0)
        replace d1 := cell_regrown ((hb.cell (p := ⟨b', off' + k * 4 + 1, none⟩) hbl').trans d1)
        replace d2 := cell_regrown ((hb.cell (p := ⟨b', off' + k * 4 + 2, none⟩) hbl').trans d2)
        replace d3 := cell_regrown ((hb.cell (p := ⟨b', off' + k * 4 + 3, none⟩) hbl').trans d3)
        have hxm : x ∈ l := List.mem_of_getElem? hx
        have HN := Lib.hid (And.intro hx (And.intro hy hst))
        clear hx hy hst
        go_wp2_with fail
        refine wp_region_quiet_below (by kernel_rfl) (by kernel_rfl) ?_
        repeat (quiet_step (exact Calls.regrown_of (HL.out x hxm y _ _ _ ((hat.below hb).below (below_regrown _ _ _)) ((hat'.below hb).below (below_regrown _ _ _)))))
        refine wpQuiet_nil ?_
        intro w2 hw2
        have hb2 := hb.trans ((below_of_regrown hw2).mono hb.size)
        clear hw2 c0 c1 c2 c3 d0 d1 d2 d3
        cases hs : Ty.same x y
        · have HB := Lib.hid (pairs_bad HN.out.1 HN.out.2.1 hs)
          go_wp2
          go_ret
          exact ⟨ret_eq (by rw [HB.out]; rfl), hb2⟩
        · have HB := Lib.hid (HN.out.2.2.next HN.out.1 HN.out.2.1 hs)
          go_wp2
          go_roundw
          case rel => exact ⟨k + 1, by omega, by go_num, HB.out, hb2⟩
          case measure => simp [intOf]; omega
      · obtain rfl : k = l.length := by omega
        have HB := Lib.hid (PairsTo.end_ HLM.out hst)
        go_wp2
        go_ret
        exact ⟨ret_eq (by rw [HB.out]; rfl), hb⟩
  · have g1 : ((l.length : Int) != (m.length : Int)) = true := by rw [bne_iff_ne]; omega
    rw [pairs_len hlm]
    go_enter Tryz.func39, Tryz.ntmps39
    go_wp2
    go_ret
    exact ⟨rfl, Below.refl _ _⟩

set_option maxHeartbeats 1000000 in
theorem eqType_w (x : Ty) : IsQ 13 Ty.ds Ty.same x := by
  refine Ty.ind (fun k n l kids ih => ?_) x
  intro y cs cs' w hcs hcs'
  obtain ⟨k', n', l', kids'⟩ := y
  obtain ⟨AA, Ac, AA', Ac', rfl, iA0, zA1, sA2, sA3⟩ := Ty.open_ hcs
  obtain ⟨BA, Bc, BA', Bc', rfl, iB0, zB1, sB2, sB3⟩ := Ty.open_ hcs'
  have hE : Ty.same (Ty.mk k n l kids) (Ty.mk k' n' l' kids') = ((k == k') && ((n.toList == n'.toList) && (pairs sameS l l' && (pairs Ty.same kids kids')))) := Ty.same_eq _ _ _ _ _ _ _ _
  have HE := Lib.hid hE
  have IH := Lib.hid ih
  have H2 := Lib.hid (And.intro sA2 sB2)
  have H3 := Lib.hid (And.intro sA3 sB3)
  clear hE ih iA0 iB0 zA1 zB1 sA2 sB2 sA3 sB3
  show Calls Tryz.prog 13 _ _ (fun e w' => e = .returned (.bool (Ty.same (Ty.mk k n l kids) (Ty.mk k' n' l' kids'))) ∧ Below w.heap.size w w')
  cases h0 : (k == k')
  · have g0 : (k != k') = true := by simp [bne, h0]
    have E0 := Lib.hid h0
    go_enter Tryz.func13, Tryz.ntmps13
    go_wp2
    go_ret
    exact ⟨ret_eq (by rw [HE.out, E0.out]; try rfl), (by repeat (first | exact Below.refl _ _ | refine Below.alloc ?_ (by first | omega | (simp <;> omega)) _))⟩
  · have g0 : (k != k') = false := by simp [bne, h0]
    have E0 := Lib.hid h0
    cases h1 : (n.toList == n'.toList)
    · have g1 : (n.toList != n'.toList) = true := by simp [bne, h1]
      have E1 := Lib.hid h1
      go_enter Tryz.func13, Tryz.ntmps13
      go_wp2
      go_ret
      exact ⟨ret_eq (by rw [HE.out, E0.out, E1.out]; try rfl), (by repeat (first | exact Below.refl _ _ | refine Below.alloc ?_ (by first | omega | (simp <;> omega)) _))⟩
    · have g1 : (n.toList != n'.toList) = false := by simp [bne, h1]
      have E1 := Lib.hid h1
      go_enter Tryz.func13, Tryz.ntmps13
      go_wp2_with fail
      refine (eqStringS_w l l' _ _ _ (H2.out.1.below (by repeat (first | exact Below.refl _ _ | refine Below.alloc ?_ (by first | omega | (simp <;> omega)) _))) (H2.out.2.below (by repeat (first | exact Below.refl _ _ | refine Below.alloc ?_ (by first | omega | (simp <;> omega)) _)))).mono ?_
      rintro e w1 ⟨rfl, hb1⟩
      obtain ⟨B1, bA, bB⟩ := box2 (cA := [_, _, _, _]) (cB := [_, _, _, _]) hb1
      clear hb1
      have c := bA.cell
      have d := bB.cell
      cases h2 : pairs sameS l l'
      · have E2 := Lib.hid h2
        clear h2
        go_wp2
        go_ret
        exact ⟨ret_eq (by rw [HE.out, E0.out, E1.out, E2.out]; try rfl), B1⟩
      · have E2 := Lib.hid h2
        clear h2
        go_wp2_with fail
        refine (eqTypeS_w kids kids' IH.out _ _ _ (H3.out.1.below B1) (H3.out.2.below B1)).mono ?_
        rintro e w2 ⟨rfl, hb2⟩
        have B2 := B1.trans (hb2.mono B1.size)
        replace bA := bA.call hb2
        replace bB := bB.call hb2
        clear c d B1
        clear hb2
        have c := bA.cell
        have d := bB.cell
        cases h3 : pairs Ty.same kids kids'
        · have E3 := Lib.hid h3
          clear h3
          go_wp2
          go_ret
          exact ⟨ret_eq (by rw [HE.out, E0.out, E1.out, E2.out, E3.out]; try rfl), B2⟩
        · have E3 := Lib.hid h3
          clear h3
          go_wp2
          go_ret
          exact ⟨ret_eq (by rw [HE.out, E0.out, E1.out, E2.out, E3.out]; try rfl), B2⟩

end Go.Proofs.YtcpadaelgdmipaaGreatDoor
