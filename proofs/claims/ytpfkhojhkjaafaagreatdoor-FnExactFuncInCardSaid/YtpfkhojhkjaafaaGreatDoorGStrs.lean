/- Slices of texts: how much the law counts, its copy, its comparison. -/
import Derived.Test.YtpfkhojhkjaafaaGreatDoorCore
import Derived.Test.YtpfkhojhkjaafaaGreatDoorTree
import Derived.Test.YtpfkhojhkjaafaaGreatDoorRow4
namespace Go.Proofs.YtpfkhojhkjaafaaGreatDoor
open Go.RowKit

/-- A function that says q of two structs. -/
def IsQ {α : Type} (F : FuncId) (f : α → List D) (q : α → α → Bool) (x : α) : Prop := ∀ (y : α) (cs cs' : List Value) (w : World), D.Ats w anyB (f x) cs → D.Ats w anyB (f y) cs' →
  Calls Tryz.prog F #[.agg cs.toArray, .agg cs'.toArray] w fun e w' => e = .returned (.bool (q x y)) ∧ Below w.heap.size w w'

set_option maxHeartbeats 1000000 in
theorem szStringS_w (l : List ByteArray) (v : Value) (a : Int) (w : World) (hv : D.At w anyB (strs l) v) (h0 : 0 ≤ a) (h1 : a ≤ 1048576) :
    Calls Tryz.prog 31 #[v, .int .i64 a] w fun e w' => e = .returned (.int .i64 (left a (strs l).total)) ∧ Below w.heap.size w w' := by
  obtain ⟨A, cap, rfl, hn, hc⟩ := rows_form strD_length hv
  unfold maxLen at hc
  have HV := Lib.hid hv
  clear hv
  rw [strs, rows_total]
  by_cases hlen : (l.length : Int) ≤ a
  · go_enter Tryz.func31, Tryz.ntmps31
    go_wp2
    go_loopw [1, 5] (fun a' i wr => ∃ (k : Nat) (q : Int), k ≤ l.length ∧ i = .int .i64 k ∧ a' = .int .i64 q ∧ q = a - l.length - (D.totals ((l.take k).flatMap strD) : Int) ∧ 0 ≤ q ∧ Below w.heap.size w wr) (fun _ i _ => l.length - (intOf i).toNat)
    case atStart => exact ⟨0, _, Nat.zero_le _, rfl, rfl, by simp [D.totals], by omega, Below.refl _ _⟩
    case round =>
      obtain ⟨k, q, hk, rfl, rfl, hq, hq0, hb⟩ := hrel
      have HQ := Lib.hid hq
      have hq1 : q ≤ 1048576 := by omega
      clear hq
      by_cases hlt : k < l.length
      · obtain ⟨x, hx⟩ : ∃ x, l[k]? = some x := ⟨l[k], List.getElem?_eq_getElem hlt⟩
        obtain ⟨b, off, u0, rfl, -, hbl, hat, c0⟩ := rows_at1 strD_length HV.out hx
        replace c0 := (hb.cell (p := ⟨b, off + k, none⟩) hbl).trans c0
        obtain ⟨rfl, hxs⟩ := str_open hat
        unfold maxLen at hxs
        have ht : D.totals ((l.take (k + 1)).flatMap strD) = D.totals ((l.take k).flatMap strD) + x.size := by rw [take_next hx, D.totals_append]; simp [strD, D.totals, D.total]
        have htl := totals_take (f := strD) l (k + 1)
        have HT := Lib.hid (And.intro ht htl)
        clear ht htl hx hat
        by_cases hle : (x.size : Int) ≤ q
        · have hg : 0 ≤ q - (x.size : Int) := by omega
          go_wp2
          go_roundw
          case rel =>
            refine ⟨k + 1, q - x.size, by omega, by go_num, rfl, ?_, hg, hb⟩
            rw [HT.out.1, HQ.out]; omega
          case measure => simp [intOf]; omega
        · go_wp2
          go_ret
          refine ⟨ret_eq ?_, hb⟩
          rw [left_no (by have := HT.out; have := HQ.out; omega)]
          rfl
      · go_wp2
        go_ret
        refine ⟨ret_eq ?_, hb⟩
        have hk' : l.take k = l := List.take_of_length_le (by omega)
        have e := HQ.out
        rw [hk'] at e
        have e2 : left a (l.length + D.totals (l.flatMap strD)) = q := by rw [left_yes (by omega)]; omega
        rw [e2]
        rfl
  · rw [left_no (by omega)]
    go_enter Tryz.func31, Tryz.ntmps31
    go_wp2
    go_ret
    exact ⟨rfl, Below.refl _ _⟩

theorem info_str : (Tryz.prog.info? 9).map (fun i => (i.zero, i.size, i.bytes)) = some (some (.string ⟨#[]⟩), 1, 16) := by kernel_rfl

set_option maxHeartbeats 1000000 in
theorem toStringS_x (l : List ByteArray) (v : Value) (w : World) (hv : D.At w anyB (strs l) v) (ht : (strs l).total ≤ 1048576) : Calls Tryz.prog 36 #[v] w fun e w' => RetD (strs l) w e w' ∧ ∃ g cap, e = .returned (.slice (some ⟨g, 0, none⟩) l.length cap) := by
  obtain ⟨A, cap, rfl, hn, hc⟩ := rows_form strD_length hv
  unfold maxLen at hc
  rw [strs, rows_total] at ht
  have HV := Lib.hid hv
  obtain ⟨i0, hi, hz0, hz1, hz2⟩ := info_parts info_str
  obtain ⟨cur, hcs, hmk⟩ := make_fact (P := Tryz.prog) Tryz.underlying22 hi hz0 hz1 hz2 l.length (by omega) (by omega) w
  have HC := Lib.hid (Filled.start w cur 9 1 l.length hcs)
  clear hv hi hz0 hz1 hz2 hcs
  go_enter Tryz.func36, Tryz.ntmps36
  go_wp2
  go_loopw [4] (fun i wr => ∃ k : Nat, k ≤ l.length ∧ i = .int .i64 k ∧ Filled w wr w.heap.size 9 1 l.length k ((l.take k).flatMap strD)) (fun i _ => l.length - (intOf i).toNat)
  case atStart => exact ⟨0, Nat.zero_le _, rfl, HC.out⟩
  case round =>
    obtain ⟨k, hk, rfl, hf⟩ := hrel
    have hb := hf.below
    by_cases hlt : k < l.length
    · obtain ⟨x, hx⟩ : ∃ x, l[k]? = some x := ⟨l[k], List.getElem?_eq_getElem hlt⟩
      obtain ⟨b, off, u0, rfl, -, hbl, hat, c0⟩ := rows_at1 strD_length HV.out hx
      replace c0 := (hb.cell (p := ⟨b, off + k, none⟩) hbl).trans c0
      obtain ⟨rfl, hxs⟩ := str_open hat
      have HD := Lib.hid (take_next (f := strD) hx)
      clear hx
      obtain ⟨o0, p0, q0⟩ := hf.cells k (by omega)
      have hst := hf.store hlt rfl (str_mk (S := fun b => w.heap.size < b) hxs)
      rw [Nat.mul_one] at hst
      have HF := Lib.hid hst
      clear hf hst hat hxs
      go_wp2
      go_roundw
      case rel => exact ⟨k + 1, by omega, by go_num, by rw [HD.out]; exact HF.out⟩
      case measure => simp [intOf]; omega
    · obtain rfl : k = l.length := by omega
      have hd := hf.done (by unfold maxLen; omega)
      have HF := Lib.hid (And.intro hd hb)
      clear hd hb hf
      go_wp2
      go_ret
      refine ⟨⟨_, rfl, ?_, HF.out.2⟩, _, _, rfl⟩
      have := HF.out.1
      rw [List.take_length] at this
      exact this
theorem toStringS_w (l : List ByteArray) (v : Value) (w : World) (hv : D.At w anyB (strs l) v) (ht : (strs l).total ≤ 1048576) : Calls Tryz.prog 36 #[v] w (RetD (strs l) w) :=
  (toStringS_x l v w hv ht).mono fun _ _ h => h.1

set_option maxHeartbeats 1000000 in
theorem eqStringS_w (l m : List ByteArray) (v v' : Value) (w : World) (hv : D.At w anyB (strs l) v) (hv' : D.At w anyB (strs m) v') :
    Calls Tryz.prog 42 #[v, v'] w fun e w' => e = .returned (.bool (pairs sameS l m)) ∧ Below w.heap.size w w' := by
  obtain ⟨A, cap, rfl, hn, hc⟩ := rows_form strD_length hv
  obtain ⟨A', cap', rfl, hn', hc'⟩ := rows_form strD_length hv'
  unfold maxLen at hc hc'
  have HV := Lib.hid hv
  have HV' := Lib.hid hv'
  clear hv hv'
  by_cases hlm : l.length = m.length
  · have g1 : ((l.length : Int) != (m.length : Int)) = false := by simp [hlm]
    have HLM := Lib.hid hlm
    have hle : m.length ≤ l.length := by omega
    clear hlm
    go_enter Tryz.func42, Tryz.ntmps42
    go_wp2
    go_loopw [5] (fun i wr => ∃ k : Nat, k ≤ l.length ∧ i = .int .i64 k ∧ PairsTo sameS l m k ∧ Below w.heap.size w wr) (fun i _ => l.length - (intOf i).toNat)
    case atStart => exact ⟨0, Nat.zero_le _, rfl, PairsTo.zero _ _ _, Below.refl _ _⟩
    case round =>
      obtain ⟨k, hk, rfl, hst, hb⟩ := hrel
      by_cases hlt : k < l.length
      · obtain ⟨x, hx⟩ : ∃ x, l[k]? = some x := ⟨l[k], List.getElem?_eq_getElem hlt⟩
        obtain ⟨y, hy⟩ : ∃ y, m[k]? = some y := ⟨m[k]'(by have := HLM.out; omega), List.getElem?_eq_getElem (by have := HLM.out; omega)⟩
        have hltm : (k : Int) < (m.length : Int) := by have := HLM.out; omega
        have hk0 : (0 : Int) ≤ (k : Int) := by omega
        have hk1 : (k : Int) < (l.length : Int) := by omega
        obtain ⟨b, off, u0, rfl, -, hbl, hat, c0⟩ := rows_at1 strD_length HV.out hx
        obtain ⟨b', off', v0, rfl, -, hbl', hat', d0⟩ := rows_at1 strD_length HV'.out hy
        obtain ⟨rfl, hxs⟩ := str_open hat
        obtain ⟨rfl, hys⟩ := str_open hat'
        replace c0 := cell_regrown ((hb.cell (p := ⟨b, off + k, none⟩) hbl).trans c0)
        replace d0 := cell_regrown ((hb.cell (p := ⟨b', off' + k, none⟩) hbl').trans d0)
        have HN := Lib.hid (And.intro hx (And.intro hy hst))
        clear hx hy hst
        cases hs : (x.toList == y.toList)
        all_goals
          have hne : (x.toList != y.toList) = !(x.toList == y.toList) := rfl
          rw [hs] at hne
          have HS := Lib.hid hs
          go_wp2_with fail
          refine wp_region_quiet_below (by kernel_rfl) (by kernel_rfl) ?_
          repeat (quiet_step (fail))
          refine wpQuiet_nil ?_
          intro w2 hw2
          have hb2 := hb.trans ((below_of_regrown hw2).mono hb.size)
          clear hw2 c0 d0
        · have HB := Lib.hid (pairs_bad (q := sameS) HN.out.1 HN.out.2.1 HS.out)
          go_wp2
          go_ret
          exact ⟨ret_eq (by rw [HB.out]; rfl), hb2⟩
        · have HB := Lib.hid (HN.out.2.2.next HN.out.1 HN.out.2.1 HS.out)
          go_wp2
          go_roundw
          case rel => exact ⟨k + 1, by omega, by go_num, HB.out, hb2⟩
          case measure => simp [intOf]; omega
      · obtain rfl : k = l.length := by omega
        have HB := Lib.hid (PairsTo.end_ HLM.out hst)
        go_wp2
        go_ret
        exact ⟨ret_eq (by rw [HB.out]; rfl), hb⟩
  · have g1 : ((l.length : Int) != (m.length : Int)) = true := by rw [bne_iff_ne]; omega
    rw [pairs_len hlm]
    go_enter Tryz.func42, Tryz.ntmps42
    go_wp2
    go_ret
    exact ⟨rfl, Below.refl _ _⟩
end Go.Proofs.YtpfkhojhkjaafaaGreatDoor
