/- Int64: rows of such, marked and held. Slices of numbers: the law's copy, in memory of its own, its comparison, and how such an argument opens. -/
import Derived.Test.YtcpadaelgdmipaaGreatDoorPkMk
import Derived.Test.YtcpadaelgdmipaaGreatDoorTyKind
import Derived.Deep.QuietTactic
import Derived.BigQuiet
import Derived.Test.YtcpadaelgdmipaaGreatDoorPkG
import Derived.Test.YtcpadaelgdmipaaGreatDoorSepIn
import Derived.Test.YtcpadaelgdmipaaGreatDoorPkO
namespace Go.Proofs.YtcpadaelgdmipaaGreatDoor
open Go.RowKit

set_option maxHeartbeats 2000000 in
set_option maxRecDepth 20000 in
theorem markInt64S_w (l : List Int) : MkD 17 (rows intD 1 l) := by
  intro v bl k z w hz h1 hk hv hnd
  subst hz
  rw [rows_count] at hk ⊢
  have HC := Lib.hid hk
  rw [rows_mark]
  unfold rows at hv
  obtain ⟨A, cap, rfl, hn, hc, -⟩ := hv.sl_form
  unfold maxLen at hc
  have HV := Lib.hid hv
  clear hv
  go_enter Tryz.func17, Tryz.ntmps17
  go_wp2
  go_loopw [1, 5] (fun kk i wr => ∃ (j Q : Nat), j ≤ l.length ∧ i = .int .i64 j ∧ kk = .int .i64 (Q : Int) ∧ Q = k + D.counts ((l.take j).flatMap intD) ∧ D.Sep wr (.sl l.length 1 (D.marks k ((l.take j).flatMap intD) ++ (l.drop j).flatMap intD)) bl (.slice A l.length cap) ∧ Wr bl w wr) (fun _ i _ => l.length - (intOf i).toNat)
  case atStart => exact ⟨0, k, Nat.zero_le _, rfl, rfl, by simp [D.counts], by simpa [D.marks] using HV.out, Wr.refl _ _⟩
  case round =>
    obtain ⟨j, Q, hj, rfl, rfl, hQ, hS, hW⟩ := hrel
    by_cases hlt : j < l.length
    · obtain ⟨x, hx⟩ : ∃ x, l[j]? = some x := ⟨l[j], List.getElem?_eq_getElem hlt⟩
      have hj0 : (0 : Int) ≤ (j : Int) := by omega
      have hj1 : (j : Int) < (l.length : Int) := by omega
      have hQ1 : 1 ≤ Q := by omega
      have hQb : Q + D.counts (intD x) ≤ 1000000000000 := by have h2 := counts_take intD l (j + 1); rw [counts_next hx] at h2; omega
      have HN := Lib.hid (And.intro (counts_next (f := intD) hx) (marks_next (f := intD) (k := k) hx))
      have HQ := Lib.hid hQ
      rw [rows_split hx] at hS
      obtain ⟨R, hR⟩ : ∃ R, (l.drop (j + 1)).flatMap intD = R := ⟨_, rfl⟩
      rw [hR] at hS
      obtain ⟨P, hP⟩ : ∃ P, D.marks k ((l.take j).flatMap intD) = P := ⟨_, rfl⟩
      have hPl : P.length = j := by rw [← hP, D.marks_length, flat_length intD_length, List.length_take, Nat.min_eq_left (by omega)]; omega
      rw [hP] at hS
      have HRP := Lib.hid (And.intro hR hP)
      clear hR hP hx hQ
      have e0 : intD x = [.int x] := by simp [intD]
      have e1 : D.counts (intD x) = 1 := by rw [e0]; simp [D.counts, D.count]
      rw [e1] at hQb
      have e2 : D.marks Q (intD x) = [D.int ((Q : Nat) : Int)] := by rw [e0]; simp only [D.marks, D.mark]
      have HE := Lib.hid (And.intro e1 e2)
      rw [e0] at hS
      have S0 : D.Sep wr (.sl l.length 1 (P ++ .int x :: (R))) bl (.slice A l.length cap) := hS
      obtain ⟨g, rfl, hg⟩ := S0.block hnd
      have KS := Lib.hid S0
      clear hS S0 e0 e1 e2
      have KW := Lib.hid hW
      clear hW
      obtain ⟨⟨c0, z0⟩, f0⟩ := D.Sep.step_int (j) (by simp [hPl]) KS.out hnd
      have KS0 := Lib.hid (f0 ((Q : Nat) : Int) (by omega))
      have KW0 := Lib.hid (KW.out.set (p := ⟨g, j, none⟩) hg (.int .i64 ((Q : Nat) : Int)))
      clear KS KW f0
      have KS := KS0
      have KW := KW0
      clear KS0 KW0
      go_wp2
      go_roundw
      case rel =>
        refine ⟨j + 1, Q + 1, by omega, by go_num, by first | rfl | go_num, ?_, ?_, KW.out⟩
        · rw [HN.out.1, HE.out.1]; have := HQ.out; omega
        · rw [HN.out.2, ← HQ.out, HE.out.2, HRP.out.1, HRP.out.2]
          have h := KS.out
          first | exact h | simpa using h
      case measure => simp [intOf]; omega
    · obtain rfl : j = l.length := by omega
      have KS := Lib.hid hS
      have HQ := Lib.hid hQ
      clear hS hQ
      go_wp2
      go_ret
      refine ⟨Q, ?_, rfl, ?_, hW⟩
      · have h := HQ.out; rw [List.take_length] at h; exact h
      · have h := KS.out; rw [List.take_length, List.drop_length] at h; simpa using h
theorem markInt64S_all (l : List Int) : MkD 17 (rows intD 1 l) := markInt64S_w l
end Go.Proofs.YtcpadaelgdmipaaGreatDoor
namespace Go.Proofs.YtcpadaelgdmipaaGreatDoor
open Go.RowKit Go.ChangeShapes Go.WideShapes

theorem info_gi64 : (Tryz.prog.info? 2).map (fun i => (i.zero, i.size, i.bytes)) = some (some (.int .i64 0), 1, 8) := by kernel_rfl
theorem int_open {S : Nat → Prop} {w : World} {x : Int} {u : Value} (h : D.Ats w S (intD x) [u]) : u = .int .i64 x ∧ (-9223372036854775808 ≤ x ∧ x ≤ 9223372036854775807) := by
  simp only [intD, D.Ats, D.At] at h
  obtain ⟨v, vs, hx, ⟨rfl, h1⟩, rfl⟩ := h
  simp at hx
  exact ⟨hx, h1⟩
theorem int_mkS {S : Nat → Prop} {w : World} {x : Int} (h : -9223372036854775808 ≤ x ∧ x ≤ 9223372036854775807) : D.Ats w S (intD x) [.int .i64 x] := .cons (by unfold D.At; exact ⟨rfl, h⟩) .nil
def ints (l : List Int) : D := rows intD 1 l
theorem ints_total (l : List Int) : D.totals (l.flatMap intD) = 0 := by
  induction l with
  | nil => rfl
  | cons x r ih => rw [List.flatMap_cons, D.totals_append, ih]; simp [intD, D.totals, D.total]
theorem ints_counts (l : List Int) : D.counts (l.flatMap intD) = l.length := by
  induction l with
  | nil => rfl
  | cons x r ih => rw [List.flatMap_cons, D.counts_append, ih]; simp [intD, D.counts, D.count]; omega
theorem int_of_trod {H : Type} {enc : TypeId × Value → H} {w : World} {base : Nat} {spare : Nat → Bool} {held : Bool} (n : Nat) (cs : List Value) (x : DataW H × List MemPlace)
    (h : DataW.trod enc Tryz.prog w base spare held n 2 cs = some x) : ∃ y : Int, D.Ats w anyB (intD y) cs := by
  obtain ⟨s, e0, rfl, ws⟩ := DataW.trod_int Tryz.underlying2 h
  subst e0
  exact ⟨s, int_mkS (bounds_i64 ws)⟩
set_option maxRecDepth 20000 in
theorem Int64S_arg {H : Type} {enc : TypeId × Value → H} {w : World} {base b0 : Nat} {v : Value} {d : DataW H} {p : List MemPlace} (hv : Value.okWide Tryz.prog w .any b0 29 v) (h : DataW.Trod enc Tryz.prog w base (fun _ => true) true 29 v d p) :
    ∃ l : List Int, D.At w anyB (rows intD 1 l) v := by
  obtain ⟨a, len, cap, rfl⟩ := okWide_slice Tryz.underlying29 hv
  obtain ⟨n, hn⟩ := h
  obtain ⟨v', l, e, hl⟩ := slice_of_trod (f := intD) (size := 1) Tryz.underlying29 cells_int64 (by omega) intD_length hn (fun k' cs' y _ hy => int_of_trod k' cs' y hy)
  simp [Value.cells] at e
  subst e
  exact ⟨l, hl⟩

set_option maxHeartbeats 1000000 in
theorem toInt64S_x (l : List Int) (v : Value) (w : World) (hv : D.At w anyB (rows intD 1 l) v) (ht : l.length ≤ 1048576) : Calls Tryz.prog 10 #[v] w fun e w' => RetD (rows intD 1 l) w e w' ∧ ∃ g cap, e = .returned (.slice (some ⟨g, 0, none⟩) l.length cap) := by
  obtain ⟨A, cap, rfl, hn, hc⟩ := rows_form intD_length hv
  unfold maxLen at hc
  have HV := Lib.hid hv
  obtain ⟨i0, hi, hz0, hz1, hz2⟩ := info_parts info_gi64
  obtain ⟨cur, hcs, hmk⟩ := make_fact (P := Tryz.prog) Tryz.underlying29 hi hz0 hz1 hz2 l.length (by omega) (by omega) w
  have HC := Lib.hid (Filled.start w cur 2 1 l.length hcs)
  clear hv hi hz0 hz1 hz2 hcs
  go_enter Tryz.func10, Tryz.ntmps10
  go_wp2
  go_loopw [4] (fun i wr => ∃ k : Nat, k ≤ l.length ∧ i = .int .i64 k ∧ Filled w wr w.heap.size 2 1 l.length k ((l.take k).flatMap intD)) (fun i _ => l.length - (intOf i).toNat)
  case atStart => exact ⟨0, Nat.zero_le _, rfl, HC.out⟩
  case round =>
    obtain ⟨k, hk, rfl, hf⟩ := hrel
    have hb := hf.below
    by_cases hlt : k < l.length
    · obtain ⟨x, hx⟩ : ∃ x, l[k]? = some x := ⟨l[k], List.getElem?_eq_getElem hlt⟩
      obtain ⟨b, off, u0, rfl, -, hbl, hat, c0⟩ := rows_at1 intD_length HV.out hx
      replace c0 := (hb.cell (p := ⟨b, off + k, none⟩) hbl).trans c0
      obtain ⟨rfl, hxs⟩ := int_open hat
      have HD := Lib.hid (take_next (f := intD) hx)
      clear hx
      obtain ⟨o0, p0, q0⟩ := hf.cells k (by omega)
      have hst := hf.store hlt rfl (int_mkS (S := fun b => w.heap.size < b) hxs)
      rw [Nat.mul_one] at hst
      have HF := Lib.hid hst
      clear hf hst hat hxs
      go_wp2
      go_roundw
      case rel => exact ⟨k + 1, by omega, by go_num, by rw [HD.out]; exact HF.out⟩
      case measure => simp [intOf]; omega
    · obtain rfl : k = l.length := by omega
      have hd := hf.done (by unfold maxLen; omega)
      have HF := Lib.hid (And.intro hd hb)
      clear hd hb hf
      go_wp2
      go_ret
      refine ⟨⟨_, rfl, ?_, HF.out.2⟩, _, _, rfl⟩
      have := HF.out.1
      rw [List.take_length] at this
      exact this
theorem toInt64S_w (l : List Int) (v : Value) (w : World) (hv : D.At w anyB (rows intD 1 l) v) (ht : l.length ≤ 1048576) : Calls Tryz.prog 10 #[v] w (RetD (rows intD 1 l) w) :=
  (toInt64S_x l v w hv ht).mono fun _ _ h => h.1

set_option maxHeartbeats 1000000 in
theorem toInt64S_p (l : List Int) (v : Value) (w : World) (hv : D.At w anyB (rows intD 1 l) v) (ht : l.length ≤ 1048576) : Calls Tryz.prog 10 #[v] w (RetS (rows intD 1 l) w) := by
  obtain ⟨A, cap, rfl, hn, hc⟩ := rows_form intD_length hv
  unfold maxLen at hc
  have HV := Lib.hid hv
  obtain ⟨i0, hi, hz0, hz1, hz2⟩ := info_parts info_gi64
  obtain ⟨cur, hcs, hmk⟩ := make_fact (P := Tryz.prog) Tryz.underlying29 hi hz0 hz1 hz2 l.length (by omega) (by omega) w
  have HC := Lib.hid (FilledP.start w cur 2 1 l.length hcs)
  clear hv hi hz0 hz1 hz2 hcs
  go_enter Tryz.func10, Tryz.ntmps10
  go_wp2
  go_loopw [4] (fun i wr => ∃ k : Nat, k ≤ l.length ∧ i = .int .i64 k ∧ FilledP w wr w.heap.size 2 1 l.length k ((l.take k).flatMap intD)) (fun i _ => l.length - (intOf i).toNat)
  case atStart => exact ⟨0, Nat.zero_le _, rfl, HC.out⟩
  case round =>
    obtain ⟨k, hk, rfl, hf⟩ := hrel
    have hb := hf.below
    by_cases hlt : k < l.length
    · obtain ⟨x, hx⟩ : ∃ x, l[k]? = some x := ⟨l[k], List.getElem?_eq_getElem hlt⟩
      obtain ⟨b, off, u0, rfl, -, hbl, hat, c0⟩ := rows_at1 intD_length HV.out hx
      replace c0 := (hb.cell (p := ⟨b, off + k, none⟩) hbl).trans c0
      obtain ⟨rfl, hxs⟩ := int_open hat
      have HD := Lib.hid (take_next (f := intD) hx)
      clear hx
      obtain ⟨o0, p0, q0⟩ := hf.cells (Below.refl _ _) k (by omega)
      have hst := hf.store (Below.refl _ _) hlt rfl (es := intD x) (SepsIn.cons (SepIn.int hxs) (SepsIn.nil (Nat.le_refl _)))
      rw [Nat.mul_one] at hst
      have HF := Lib.hid hst
      clear hf hst hat hxs
      go_wp2
      go_roundw
      case rel => exact ⟨k + 1, by omega, by go_num, by rw [HD.out]; exact HF.out⟩
      case measure => simp [intOf]; omega
    · obtain rfl : k = l.length := by omega
      have hd := hf.done (by unfold maxLen; omega) (fun h => by rw [List.take_of_length_le (Nat.le_refl _), List.eq_nil_of_length_eq_zero h]; rfl)
      have HF := Lib.hid (And.intro hd hb)
      clear hd hb hf
      go_wp2
      go_ret
      refine ⟨_, rfl, ?_, HF.out.2⟩
      have := HF.out.1
      rw [List.take_length] at this
      exact this

def sameI (x y : Int) : Bool := x == y

set_option maxHeartbeats 1000000 in
theorem eqInt64S_w (l m : List Int) (v v' : Value) (w : World) (hv : D.At w anyB (rows intD 1 l) v) (hv' : D.At w anyB (rows intD 1 m) v') :
    Calls Tryz.prog 14 #[v, v'] w fun e w' => e = .returned (.bool (pairs sameI l m)) ∧ Below w.heap.size w w' := by
  obtain ⟨A, cap, rfl, hn, hc⟩ := rows_form intD_length hv
  obtain ⟨A', cap', rfl, hn', hc'⟩ := rows_form intD_length hv'
  unfold maxLen at hc hc'
  have HV := Lib.hid hv
  have HV' := Lib.hid hv'
  clear hv hv'
  by_cases hlm : l.length = m.length
  · have g1 : ((l.length : Int) != (m.length : Int)) = false := by simp [hlm]
    have HLM := Lib.hid hlm
    have hle : m.length ≤ l.length := by omega
    clear hlm
    go_enter Tryz.func14, Tryz.ntmps14
    go_wp2
    go_loopw [5] (fun i wr => ∃ k : Nat, k ≤ l.length ∧ i = .int .i64 k ∧ PairsTo sameI l m k ∧ Below w.heap.size w wr) (fun i _ => l.length - (intOf i).toNat)
    case atStart => exact ⟨0, Nat.zero_le _, rfl, PairsTo.zero _ _ _, Below.refl _ _⟩
    case round =>
      obtain ⟨k, hk, rfl, hst, hb⟩ := hrel
      by_cases hlt : k < l.length
      · obtain ⟨x, hx⟩ : ∃ x, l[k]? = some x := ⟨l[k], List.getElem?_eq_getElem hlt⟩
        obtain ⟨y, hy⟩ : ∃ y, m[k]? = some y := ⟨m[k]'(by have := HLM.out; omega), List.getElem?_eq_getElem (by have := HLM.out; omega)⟩
        have hltm : (k : Int) < (m.length : Int) := by have := HLM.out; omega
        have hk0 : (0 : Int) ≤ (k : Int) := by omega
        have hk1 : (k : Int) < (l.length : Int) := by omega
        obtain ⟨b, off, u0, rfl, -, hbl, hat, c0⟩ := rows_at1 intD_length HV.out hx
        obtain ⟨b', off', v0, rfl, -, hbl', hat', d0⟩ := rows_at1 intD_length HV'.out hy
        obtain ⟨rfl, hxs⟩ := int_open hat
        obtain ⟨rfl, hys⟩ := int_open hat'
        replace c0 := cell_regrown ((hb.cell (p := ⟨b, off + k, none⟩) hbl).trans c0)
        replace d0 := cell_regrown ((hb.cell (p := ⟨b', off' + k, none⟩) hbl').trans d0)
        have HN := Lib.hid (And.intro hx (And.intro hy hst))
        clear hx hy hst
        cases hs : (x == y)
        all_goals
          have hne : (x != y) = !(x == y) := rfl
          rw [hs] at hne
          have HS := Lib.hid hs
          go_wp2_with fail
          refine wp_region_quiet_below (by kernel_rfl) (by kernel_rfl) ?_
          repeat (quiet_step (fail))
          refine wpQuiet_nil ?_
          intro w2 hw2
          have hb2 := hb.trans ((below_of_regrown hw2).mono hb.size)
          clear hw2 c0 d0
        · have HB := Lib.hid (pairs_bad (q := sameI) HN.out.1 HN.out.2.1 HS.out)
          go_wp2
          go_ret
          exact ⟨ret_eq (by rw [HB.out]; rfl), hb2⟩
        · have HB := Lib.hid (HN.out.2.2.next HN.out.1 HN.out.2.1 HS.out)
          go_wp2
          go_roundw
          case rel => exact ⟨k + 1, by omega, by go_num, HB.out, hb2⟩
          case measure => simp [intOf]; omega
      · obtain rfl : k = l.length := by omega
        have HB := Lib.hid (PairsTo.end_ HLM.out hst)
        go_wp2
        go_ret
        exact ⟨ret_eq (by rw [HB.out]; rfl), hb⟩
  · have g1 : ((l.length : Int) != (m.length : Int)) = true := by rw [bne_iff_ne]; omega
    rw [pairs_len hlm]
    go_enter Tryz.func14, Tryz.ntmps14
    go_wp2
    go_ret
    exact ⟨rfl, Below.refl _ _⟩

end Go.Proofs.YtcpadaelgdmipaaGreatDoor
