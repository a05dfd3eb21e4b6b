/- String: rows of such, marked and held. -/
import Derived.Test.YtnfkdncfbojiiaaMkBase
import Derived.Deep.QuietTactic
import Derived.BigQuiet
namespace Go.Proofs.Ytnfkdncfbojiiaa
open Go.RowKit

set_option maxHeartbeats 2000000 in
set_option maxRecDepth 20000 in
theorem markStringS_w (l : List ByteArray) : MkD 36 (rows strD 1 l) := by
  intro v bl k z w hz h1 hk hv hnd
  subst hz
  rw [rows_count] at hk ⊢
  have HC := Lib.hid hk
  rw [rows_mark]
  unfold rows at hv
  obtain ⟨A, cap, rfl, hn, hc, -⟩ := hv.sl_form
  unfold maxLen at hc
  have HV := Lib.hid hv
  clear hv
  go_enter Try.func36, Try.ntmps36
  go_wp2
  go_loopw [1, 5] (fun kk i wr => ∃ (j Q : Nat), j ≤ l.length ∧ i = .int .i64 j ∧ kk = .int .i64 (Q : Int) ∧ Q = k + D.counts ((l.take j).flatMap strD) ∧ D.Sep wr (.sl l.length 1 (D.marks k ((l.take j).flatMap strD) ++ (l.drop j).flatMap strD)) bl (.slice A l.length cap) ∧ Wr bl w wr) (fun _ i _ => l.length - (intOf i).toNat)
  case atStart => exact ⟨0, k, Nat.zero_le _, rfl, rfl, by simp [D.counts], by simpa [D.marks] using HV.out, Wr.refl _ _⟩
  case round =>
    obtain ⟨j, Q, hj, rfl, rfl, hQ, hS, hW⟩ := hrel
    by_cases hlt : j < l.length
    · obtain ⟨x, hx⟩ : ∃ x, l[j]? = some x := ⟨l[j], List.getElem?_eq_getElem hlt⟩
      have hj0 : (0 : Int) ≤ (j : Int) := by omega
      have hj1 : (j : Int) < (l.length : Int) := by omega
      have hQ1 : 1 ≤ Q := by omega
      have hQb : Q + D.counts (strD x) ≤ 1000000000000 := by have h2 := counts_take strD l (j + 1); rw [counts_next hx] at h2; omega
      have HN := Lib.hid (And.intro (counts_next (f := strD) hx) (marks_next (f := strD) (k := k) hx))
      have HQ := Lib.hid hQ
      rw [rows_split hx] at hS
      obtain ⟨R, hR⟩ : ∃ R, (l.drop (j + 1)).flatMap strD = R := ⟨_, rfl⟩
      rw [hR] at hS
      obtain ⟨P, hP⟩ : ∃ P, D.marks k ((l.take j).flatMap strD) = P := ⟨_, rfl⟩
      have hPl : P.length = j := by rw [← hP, D.marks_length, flat_length strD_length, List.length_take, Nat.min_eq_left (by omega)]; omega
      rw [hP] at hS
      have HRP := Lib.hid (And.intro hR hP)
      clear hR hP hx hQ
      have e0 : strD x = [.str x] := by simp [strD]
      have e1 : D.counts (strD x) = 1 := by rw [e0]; simp [D.counts, D.count]
      rw [e1] at hQb
      have e2 : D.marks Q (strD x) = [D.str (markT (Q))] := by rw [e0]; simp only [D.marks, D.mark]
      have HE := Lib.hid (And.intro e1 e2)
      rw [e0] at hS
      have S0 : D.Sep wr (.sl l.length 1 (P ++ .str x :: (R))) bl (.slice A l.length cap) := hS
      obtain ⟨g, rfl, hg⟩ := S0.block hnd
      have KS := Lib.hid S0
      clear hS S0 e0 e1 e2
      have KW := Lib.hid hW
      clear hW
      go_wp2_with fail
      refine (markText_z (Q) _ (by push_cast; first | rfl | omega) (by omega) (by omega) _).mono ?_
      rintro e w1 ⟨rfl, hb1⟩
      have KS0 := Lib.hid (D.Sep.below KS.out hb1)
      have KW0 := Lib.hid (KW.out.trans (Wr.of_below hb1))
      clear KS KW hb1
      have KS := KS0
      have KW := KW0
      clear KS0 KW0
      obtain ⟨⟨c0, z0⟩, f0⟩ := D.Sep.step_str (j) (by simp [hPl]) KS.out hnd
      have KS0 := Lib.hid (f0 (markT (Q)) (mk_str (markT_size _)))
      have KW0 := Lib.hid (KW.out.set (p := ⟨g, j, none⟩) hg (.string (markT (Q))))
      clear KS KW f0
      have KS := KS0
      have KW := KW0
      clear KS0 KW0
      go_wp2
      go_roundw
      case rel =>
        refine ⟨j + 1, Q + 1, by omega, by go_num, by first | rfl | go_num, ?_, ?_, KW.out⟩
        · rw [HN.out.1, HE.out.1]; have := HQ.out; omega
        · rw [HN.out.2, ← HQ.out, HE.out.2, HRP.out.1, HRP.out.2]
          have h := KS.out
          first | exact h | simpa using h
      case measure => simp [intOf]; omega
    · obtain rfl : j = l.length := by omega
      have KS := Lib.hid hS
      have HQ := Lib.hid hQ
      clear hS hQ
      go_wp2
      go_ret
      refine ⟨Q, ?_, rfl, ?_, hW⟩
      · have h := HQ.out; rw [List.take_length] at h; exact h
      · have h := KS.out; rw [List.take_length, List.drop_length] at h; simpa using h
set_option maxHeartbeats 2000000 in
set_option maxRecDepth 20000 in
theorem heldStringS_w (l : List ByteArray) : HdD 39 (rows strD 1 l) := by
  intro v k z w hz h1 hk hv
  subst hz
  rw [rows_count] at hk ⊢
  have HC := Lib.hid hk
  rw [rows_mark] at hv
  obtain ⟨A, cap, rfl, hn, hc⟩ := hv.sl_form
  unfold maxLen at hc
  have HV := Lib.hid hv
  clear hv
  go_enter Try.func39, Try.ntmps39
  go_wp2
  go_loopw [1, 5] (fun kk i wr => ∃ (j Q : Nat), j ≤ l.length ∧ i = .int .i64 j ∧ kk = .int .i64 (Q : Int) ∧ Q = k + D.counts ((l.take j).flatMap strD) ∧ Below w.heap.size w wr) (fun _ i _ => l.length - (intOf i).toNat)
  case atStart => exact ⟨0, k, Nat.zero_le _, rfl, rfl, by simp [D.counts], Below.refl _ _⟩
  case round =>
    obtain ⟨j, Q, hj, rfl, rfl, hQ, hb⟩ := hrel
    by_cases hlt : j < l.length
    · obtain ⟨x, hx⟩ : ∃ x, l[j]? = some x := ⟨l[j], List.getElem?_eq_getElem hlt⟩
      have hj0 : (0 : Int) ≤ (j : Int) := by omega
      have hj1 : (j : Int) < (l.length : Int) := by omega
      have hQ1 : 1 ≤ Q := by omega
      have hQb : Q + D.counts (strD x) ≤ 1000000000000 := by have h2 := counts_take strD l (j + 1); rw [counts_next hx] at h2; omega
      have HN := Lib.hid (And.intro (counts_next (f := strD) hx) (marks_next (f := strD) (k := k) hx))
      have HQ := Lib.hid hQ
      have hv := HV.out.below hb
      rw [flat_take_drop strD l j, rows_split hx, D.marks_append, ← hQ, D.marks_append] at hv
      obtain ⟨R, hR⟩ : ∃ R, D.marks (Q + D.counts (strD x)) ((l.drop (j + 1)).flatMap strD) = R := ⟨_, rfl⟩
      rw [hR] at hv
      obtain ⟨P, hP⟩ : ∃ P, D.marks k ((l.take j).flatMap strD) = P := ⟨_, rfl⟩
      have hPl : P.length = j := by rw [← hP, D.marks_length, flat_length strD_length, List.length_take, Nat.min_eq_left (by omega)]; omega
      rw [hP] at hv
      have HRP := Lib.hid (And.intro hR hP)
      clear hR hP hx hQ
      have e0 : strD x = [.str x] := by simp [strD]
      have e1 : D.counts (strD x) = 1 := by rw [e0]; simp [D.counts, D.count]
      rw [e1] at hQb
      have e2 : D.marks Q (strD x) = [D.str (markT (Q))] := by rw [e0]; simp only [D.marks, D.mark]
      have HE := Lib.hid (And.intro e1 e2)
      rw [e2] at hv
      have KS := Lib.hid hv
      clear hv e0 e1 e2
      obtain ⟨g0, off0, v0, hA0, hg0, c0, hat0⟩ := D.At.field (P := P) (d := D.str (markT (Q))) (R := R) (by have h := KS.out; first | exact h | simpa using h)
      subst hA0
      rw [hPl] at c0
      obtain rfl := hat0.str_form
      clear hat0
      have B0 := hb
      clear hb KS
      have hgl : g0 < wr.heap.size := hg0
      have y0 : ((markT (Q)).toList != (markT (Q)).toList) = false := by simp
      go_wp2_with fail
      refine wp_region_quiet_below (by kernel_rfl) (by kernel_rfl) ?_
      have r0 := cell_regrown c0
      repeat (first | go_big_quiet_step (exact Calls.regrown_of (markText_z (Q) _ (by push_cast; first | rfl | omega) (by omega) (by omega) _)) | quiet_step (exact Calls.regrown_of (markText_z (Q) _ (by push_cast; first | rfl | omega) (by omega) (by omega) _)))
      refine wpQuiet_nil ?_
      intro w1 hw1
      have hb1 := below_of_regrown hw1
      have B1 := B0.trans (hb1.mono B0.size)
      replace hgl := Nat.lt_of_lt_of_le hgl hb1.size
      clear hw1 hb1 B0 c0 r0
      go_wp2
      go_roundw
      case rel => exact ⟨j + 1, Q + 1, by omega, by go_num, by first | rfl | go_num, by rw [HN.out.1, HE.out.1]; have := HQ.out; omega, B1⟩
      case measure => simp [intOf]; omega
    · obtain rfl : j = l.length := by omega
      have HQ := Lib.hid hQ
      clear hQ
      go_wp2
      go_ret
      exact ⟨Q, by have h := HQ.out; rw [List.take_length] at h; exact h, rfl, hb⟩
end Go.Proofs.Ytnfkdncfbojiiaa
