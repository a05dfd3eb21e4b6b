/- Slices of texts: the law's deep copy, in memory of its own. -/
import Derived.Test.YtnfkdncfbojiiaaGStrs
import Derived.Test.YtnfkdncfbojiiaaSepIn
namespace Go.Proofs.Ytnfkdncfbojiiaa
open Go.RowKit

set_option maxHeartbeats 1000000 in
theorem toStringS_p (l : List ByteArray) (v : Value) (w : World) (hv : D.At w anyB (strs l) v) (ht : (strs l).total ≤ 1048576) : Calls Try.prog 29 #[v] w (RetS (strs l) w) := by
  obtain ⟨A, cap, rfl, hn, hc⟩ := rows_form strD_length hv
  unfold maxLen at hc
  rw [strs, rows_total] at ht
  have HV := Lib.hid hv
  obtain ⟨i0, hi, hz0, hz1, hz2⟩ := info_parts info_str
  obtain ⟨cur, hcs, hmk⟩ := make_fact (P := Try.prog) Try.underlying22 hi hz0 hz1 hz2 l.length (by omega) (by omega) w
  have HC := Lib.hid (FilledP.start w cur 9 1 l.length hcs)
  clear hv hi hz0 hz1 hz2 hcs
  go_enter Try.func29, Try.ntmps29
  go_wp2
  go_loopw [4] (fun i wr => ∃ k : Nat, k ≤ l.length ∧ i = .int .i64 k ∧ FilledP w wr w.heap.size 9 1 l.length k ((l.take k).flatMap strD)) (fun i _ => l.length - (intOf i).toNat)
  case atStart => exact ⟨0, Nat.zero_le _, rfl, HC.out⟩
  case round =>
    obtain ⟨k, hk, rfl, hf⟩ := hrel
    have hb := hf.below
    by_cases hlt : k < l.length
    · obtain ⟨x, hx⟩ : ∃ x, l[k]? = some x := ⟨l[k], List.getElem?_eq_getElem hlt⟩
      obtain ⟨b, off, u0, rfl, -, hbl, hat, c0⟩ := rows_at1 strD_length HV.out hx
      replace c0 := (hb.cell (p := ⟨b, off + k, none⟩) hbl).trans c0
      obtain ⟨rfl, hxs⟩ := str_open hat
      have HD := Lib.hid (take_next (f := strD) hx)
      clear hx
      obtain ⟨o0, p0, q0⟩ := hf.cells (Below.refl _ _) k (by omega)
      have hst := hf.store (Below.refl _ _) hlt rfl (es := strD x) (SepsIn.cons (SepIn.str hxs) (SepsIn.nil (Nat.le_refl _)))
      rw [Nat.mul_one] at hst
      have HF := Lib.hid hst
      clear hf hst hat hxs
      go_wp2
      go_roundw
      case rel => exact ⟨k + 1, by omega, by go_num, by rw [HD.out]; exact HF.out⟩
      case measure => simp [intOf]; omega
    · obtain rfl : k = l.length := by omega
      have hd := hf.done (by unfold maxLen; omega) (fun h => by rw [List.take_of_length_le (Nat.le_refl _), List.eq_nil_of_length_eq_zero h]; rfl)
      have HF := Lib.hid (And.intro hd hb)
      clear hd hb hf
      go_wp2
      go_ret
      refine ⟨_, rfl, ?_, HF.out.2⟩
      have := HF.out.1
      rw [List.take_length] at this
      exact this
end Go.Proofs.Ytnfkdncfbojiiaa
