/- Values: the law's deep copy. -/
import Derived.Test.YthneepkkjofhaaaValW
import Derived.Test.YthneepkkjofhaaaRow4
namespace Go.Proofs.Ythneepkkjofhaaa
open Go.RowKit

/-- A struct of these cells comes back, all new; or one cell. -/
def RetDs (ds : List D) (w : World) (e : Ending) (w' : World) : Prop := ∃ cs, e = .returned (.agg cs.toArray) ∧ D.Ats w' (fun b => w.heap.size ≤ b) ds cs ∧ Below w.heap.size w w'
def RetD (d : D) (w : World) (e : Ending) (w' : World) : Prop := ∃ v, e = .returned v ∧ D.At w' (fun b => w.heap.size ≤ b) d v ∧ Below w.heap.size w w'

def ToVal (x : Val) : Prop := ∀ (cs : List Value) (w : World), D.Ats w anyB x.ds cs → x.total ≤ 1048576 → Calls Try.prog 21 #[.agg cs.toArray] w (RetDs x.ds w)

theorem info_iValue : (Try.prog.info? 29).map (fun i => (i.zero, i.size, i.bytes)) = some (some (.agg #[.int .i64 0, .int .i64 0, .string ⟨#[]⟩, .slice none 0 0]), 4, 56) := by kernel_rfl

set_option maxHeartbeats 1000000 in
theorem toValueS_w (l : List Val) (hl : ∀ x ∈ l, ToVal x) (v : Value) (w : World) (hv : D.At w anyB (Val.sl l) v) (ht : l.length + Val.totals l ≤ 1048576) :
    Calls Try.prog 76 #[v] w (RetD (Val.sl l) w) := by
  obtain ⟨A, cap, rfl, hn, hc⟩ := Val.sl_form hv
  unfold maxLen at hc
  have HV := Lib.hid hv
  have HL := Lib.hid hl
  obtain ⟨i0, hi, hz0, hz1, hz2⟩ := info_parts info_iValue
  obtain ⟨cur, hcs, hmk⟩ := make_fact (P := Try.prog) Try.underlying27 hi hz0 hz1 hz2 l.length (by omega) (by omega) w
  have HC := Lib.hid (Filled.start w cur 29 4 l.length hcs)
  clear hv hl hi hz0 hz1 hz2 hcs
  go_enter Try.func76, Try.ntmps76
  go_wp2
  go_loopw [4] (fun i wr => ∃ k : Nat, k ≤ l.length ∧ i = .int .i64 k ∧ Filled w wr w.heap.size 29 4 l.length k (Val.dss (l.take k))) (fun i _ => l.length - (intOf i).toNat)
  case atStart => exact ⟨0, Nat.zero_le _, rfl, HC.out⟩
  case round =>
    obtain ⟨k, hk, rfl, hf⟩ := hrel
    have hb := hf.below
    by_cases hlt : k < l.length
    · obtain ⟨x, hx⟩ : ∃ x, l[k]? = some x := ⟨l[k], List.getElem?_eq_getElem hlt⟩
      obtain ⟨b, off, u0, u1, u2, u3, rfl, -, hbl, hat, c0, c1, c2, c3⟩ := Val.sl_at HV.out hx
      replace c0 := (hb.cell (p := ⟨b, off + k * 4, none⟩) hbl).trans c0
      replace c1 := (hb.cell (p := ⟨b, off + k * 4 + 1, none⟩) hbl).trans c1
      replace c2 := (hb.cell (p := ⟨b, off + k * 4 + 2, none⟩) hbl).trans c2
      replace c3 := (hb.cell (p := ⟨b, off + k * 4 + 3, none⟩) hbl).trans c3
      have hxm : x ∈ l := List.mem_of_getElem? hx
      have hxt := Val.total_mem hxm
      have hd : Val.dss (l.take (k + 1)) = Val.dss (l.take k) ++ x.ds := by rw [List.take_add_one, hx, Val.dss_eq, Val.dss_eq]; simp
      have HD := Lib.hid hd
      clear hd hx
      go_wp2_with fail
      refine (HL.out x hxm _ _ (hat.below hb) (by omega)).mono ?_
      rintro e w1 ⟨cs, rfl, hcs, hb1⟩
      have hf1 := hf.call hb1
      have hcs' : D.Ats w1 (fun b => w.heap.size < b) x.ds cs := hcs.weaken (fun b hb' => Nat.lt_of_lt_of_le hf.lt hb')
      have hlen := hcs.length
      rw [Val.ds_length] at hlen
      clear hcs hb1 c0 c1 c2 c3 hf hb
      obtain ⟨xk, xn, xt, xkids⟩ := x
      obtain ⟨v3, rfl, -, -, -, hv3⟩ := Val.open_ hcs'
      obtain ⟨A3, cap3, rfl, -, -⟩ := Val.sl_form hv3
      obtain ⟨o0, p0, q0⟩ := hf1.cells (k * 4) (by omega)
      obtain ⟨o1, p1, q1⟩ := hf1.cells (k * 4 + 1) (by omega)
      obtain ⟨o2, p2, q2⟩ := hf1.cells (k * 4 + 2) (by omega)
      obtain ⟨o3, p3, q3⟩ := hf1.cells (k * 4 + 3) (by omega)
      have HF := Lib.hid (hf1.store hlt rfl hcs')
      clear hf1 hcs' hv3
      go_wp2
      go_roundw
      case rel => exact ⟨k + 1, by omega, by go_num, by rw [HD.out]; exact HF.out⟩
      case measure => simp [intOf]; omega
    · obtain rfl : k = l.length := by omega
      have hd := hf.done (by unfold maxLen; omega)
      have HF := Lib.hid (And.intro hd hb)
      clear hd hb hf
      go_wp2
      go_ret
      refine ⟨_, rfl, ?_, HF.out.2⟩
      have := HF.out.1
      rw [List.take_length] at this
      exact this

set_option maxHeartbeats 1000000 in
theorem toValue_w (x : Val) : ToVal x := by
  refine Val.ind (fun k n t kids ih => ?_) x
  intro cs w hcs htot
  obtain ⟨v, rfl, hk, hn, ht, hv⟩ := Val.open_ hcs
  simp only [Val.total] at htot
  have IH := Lib.hid ih
  have HV := Lib.hid hv
  have HB := Lib.hid (And.intro hk (And.intro hn ht))
  clear ih hv hcs hk hn ht
  obtain ⟨A, cap, rfl, -, -⟩ := Val.sl_form HV.out
  go_enter Try.func21, Try.ntmps21
  go_wp2_with fail
  refine (toValueS_w kids IH.out _ _ (HV.out.below (by repeat (first | exact Below.refl _ _ | refine Below.alloc ?_ (by simp <;> omega) _))) (by omega)).mono ?_
  rintro e w1 ⟨v3, rfl, hv3, hb1⟩
  obtain ⟨hc1, hf1⟩ := bcell hb1
  have hz1 := hb1.size
  simp at hz1
  have z0 : w.heap.size < w1.heap.size := by omega
  have z1 : w.heap.size + 1 < w1.heap.size := by omega
  have z2 : w.heap.size + 2 < w1.heap.size := by omega
  obtain ⟨A3, cap3, rfl, -, -⟩ := Val.sl_form hv3
  have hv4 : D.At w1 (fun b => w.heap.size + 3 ≤ b) (Val.sl kids) (.slice A3 kids.length cap3) := hv3.weaken (fun b hb => by simp at hb; omega)
  have hB : Below w.heap.size w w1 := Below.trans (by repeat (first | exact Below.refl _ _ | refine Below.alloc ?_ (by simp <;> omega) _)) (hb1.mono (by simp <;> omega))
  have HR := Lib.hid (And.intro hv4 hB)
  clear hv3 hv4 hB hb1 hz1
  go_wp2
  refine bodyPost_ret (v := .agg #[.int .i64 k, .int .i64 n, .string t, .slice A3 kids.length cap3]) (by simp [results, Try.results21, go_sem, hc1]) rfl ⟨[.int .i64 k, .int .i64 n, .string t, .slice A3 kids.length cap3], rfl, ?_, ?_⟩
  · obtain ⟨hv3, -⟩ := HR.out
    obtain ⟨hk, hn, ht⟩ := HB.out
    refine Val.mk_ hk hn ht (D.At.weaken (S := fun b => w.heap.size + 3 ≤ b) ?_ (fun b hb => by omega))
    repeat (refine D.At.set ?_ (by simp <;> omega) _)
    exact hv3
  · repeat (refine Below.setCell ?_ (by simp <;> omega) _)
    exact HR.out.2
end Go.Proofs.Ythneepkkjofhaaa
