/- Value: rows of such, marked and held. -/
import Derived.Test.YtnfkdncfbojiiaaMkString
import Derived.Test.YtnfkdncfbojiiaaVaM
import Derived.Deep.QuietTactic
import Derived.BigQuiet
namespace Go.Proofs.Ytnfkdncfbojiiaa
open Go.RowKit

set_option maxHeartbeats 2000000 in
set_option maxRecDepth 20000 in
theorem markValueS_w (l : List Va) (hl : ∀ x ∈ l, MkD 44 (rows Va.ds 4 x.kids)) : MkD 44 (rows Va.ds 4 l) := by
  intro v bl k z w hz h1 hk hv hnd
  subst hz
  rw [rows_count] at hk ⊢
  have HC := Lib.hid hk
  rw [rows_mark]
  unfold rows at hv
  obtain ⟨A, cap, rfl, hn, hc, -⟩ := hv.sl_form
  unfold maxLen at hc
  have HV := Lib.hid hv
  have HL := Lib.hid hl
  clear hv hl
  go_enter Try.func44, Try.ntmps44
  go_wp2
  go_loopw [1, 5] (fun kk i wr => ∃ (j Q : Nat), j ≤ l.length ∧ i = .int .i64 j ∧ kk = .int .i64 (Q : Int) ∧ Q = k + D.counts ((l.take j).flatMap Va.ds) ∧ D.Sep wr (.sl l.length 4 (D.marks k ((l.take j).flatMap Va.ds) ++ (l.drop j).flatMap Va.ds)) bl (.slice A l.length cap) ∧ Wr bl w wr) (fun _ i _ => l.length - (intOf i).toNat)
  case atStart => exact ⟨0, k, Nat.zero_le _, rfl, rfl, by simp [D.counts], by simpa [D.marks] using HV.out, Wr.refl _ _⟩
  case round =>
    obtain ⟨j, Q, hj, rfl, rfl, hQ, hS, hW⟩ := hrel
    by_cases hlt : j < l.length
    · obtain ⟨x, hx⟩ : ∃ x, l[j]? = some x := ⟨l[j], List.getElem?_eq_getElem hlt⟩
      have hj0 : (0 : Int) ≤ (j : Int) := by omega
      have hj1 : (j : Int) < (l.length : Int) := by omega
      have hQ1 : 1 ≤ Q := by omega
      have hQb : Q + D.counts (Va.ds x) ≤ 1000000000000 := by have h2 := counts_take Va.ds l (j + 1); rw [counts_next hx] at h2; omega
      have HN := Lib.hid (And.intro (counts_next (f := Va.ds) hx) (marks_next (f := Va.ds) (k := k) hx))
      have HQ := Lib.hid hQ
      have HI := Lib.hid (HL.out x (List.mem_of_getElem? hx))
      rw [rows_split hx] at hS
      obtain ⟨R, hR⟩ : ∃ R, (l.drop (j + 1)).flatMap Va.ds = R := ⟨_, rfl⟩
      rw [hR] at hS
      obtain ⟨P, hP⟩ : ∃ P, D.marks k ((l.take j).flatMap Va.ds) = P := ⟨_, rfl⟩
      have hPl : P.length = j * 4 := by rw [← hP, D.marks_length, flat_length Va.len, List.length_take, Nat.min_eq_left (by omega)]
      rw [hP] at hS
      have HRP := Lib.hid (And.intro hR hP)
      clear hR hP hx hQ
      obtain ⟨x_k, x_m, x_t, x_kids⟩ := x
      replace HI := Lib.hid (show MkD 44 (rows Va.ds 4 x_kids) from HI.out)
      have e0 : Va.ds (Va.mk x_k x_m x_t x_kids) = [.int x_k, .int x_m, .str x_t, rows Va.ds 4 x_kids] := by simp [Va.ds_eq]
      have e1 : D.counts (Va.ds (Va.mk x_k x_m x_t x_kids)) = 1 + 1 + 1 + D.counts (x_kids.flatMap Va.ds) := by rw [e0]; simp [D.counts, D.count, rows] <;> omega
      rw [e1] at hQb
      obtain ⟨n3, hn3⟩ : ∃ n, D.counts (x_kids.flatMap Va.ds) = n := ⟨_, rfl⟩
      rw [hn3] at hQb
      have e2 : D.marks Q (Va.ds (Va.mk x_k x_m x_t x_kids)) = [D.int ((Q : Nat) : Int), D.int ((Q + 1 : Nat) : Int), D.str (markT (Q + 1 + 1)), D.sl x_kids.length 4 (D.marks (Q + 1 + 1 + 1) (x_kids.flatMap Va.ds))] := by rw [e0]; simp only [D.marks, D.mark, D.count, rows]
      have HE := Lib.hid (And.intro e1 e2)
      have HN3 := Lib.hid hn3
      rw [e0] at hS
      have S0 : D.Sep wr (.sl l.length 4 (P ++ .int x_k :: (.int x_m :: .str x_t :: .sl x_kids.length 4 (x_kids.flatMap Va.ds) :: R))) bl (.slice A l.length cap) := hS
      obtain ⟨g, rfl, hg⟩ := S0.block hnd
      have KS := Lib.hid S0
      clear hS S0 e0 e1 e2 hn3
      have KW := Lib.hid hW
      clear hW
      obtain ⟨⟨c0, z0⟩, f0⟩ := D.Sep.step_int (j * 4) (by simp [hPl]) KS.out hnd
      have KS0 := Lib.hid (f0 ((Q : Nat) : Int) (by omega))
      have KW0 := Lib.hid (KW.out.set (p := ⟨g, j * 4, none⟩) hg (.int .i64 ((Q : Nat) : Int)))
      clear KS KW f0
      have KS := KS0
      have KW := KW0
      clear KS0 KW0
      obtain ⟨⟨c1, z1⟩, f1⟩ := D.Sep.step_int (j * 4 + 1) (by simp [hPl]) KS.out hnd
      rw [cell_set_ne _ _ _ _ _ (by omega)] at c1
      rw [frozen_set] at z1
      have KS1 := Lib.hid (f1 ((Q + 1 : Nat) : Int) (by omega))
      have KW1 := Lib.hid (KW.out.set (p := ⟨g, j * 4 + 1, none⟩) hg (.int .i64 ((Q + 1 : Nat) : Int)))
      clear KS KW f1
      have KS := KS1
      have KW := KW1
      clear KS1 KW1
      go_wp2_with fail
      refine (markText_z (Q + 1 + 1) _ (by push_cast; first | rfl | omega) (by omega) (by omega) _).mono ?_
      rintro e w1 ⟨rfl, hb1⟩
      have KS2 := Lib.hid (D.Sep.below KS.out hb1)
      have KW2 := Lib.hid (KW.out.trans (Wr.of_below hb1))
      clear KS KW hb1
      have KS := KS2
      have KW := KW2
      clear KS2 KW2
      clear c0 z0 c1 z1
      obtain ⟨⟨c2, z2⟩, f2⟩ := D.Sep.step_str (j * 4 + 2) (by simp [hPl]) KS.out hnd
      have KS2 := Lib.hid (f2 (markT (Q + 1 + 1)) (mk_str (markT_size _)))
      have KW2 := Lib.hid (KW.out.set (p := ⟨g, j * 4 + 2, none⟩) hg (.string (markT (Q + 1 + 1))))
      clear KS KW f2
      have KS := KS2
      have KW := KW2
      clear KS2 KW2
      obtain ⟨l3, A3, c_3, c3, s3, nd3, sub3, f3⟩ := D.Sep.step_sl (j * 4 + 3) (by simp [hPl]) KS.out hnd
      rw [cell_set_ne _ _ _ _ _ (by omega)] at c3
      have K3 := Lib.hid (And.intro s3 (And.intro nd3 (And.intro sub3 f3)))
      clear s3 nd3 sub3 f3
      go_wp2_with fail
      refine ((HI.out) _ l3 (Q + 1 + 1 + 1) _ _ (by push_cast; first | rfl | omega) (by omega) (by rw [rows_count, HN3.out]; omega) K3.out.1 K3.out.2.1).mono ?_
      rintro e w2 ⟨m3, hm3, rfl, s3, wr3⟩
      have HM3 := Lib.hid (show m3 = Q + 1 + 1 + 1 + n3 from by rw [hm3, rows_count, HN3.out])
      have KS3 := Lib.hid (K3.out.2.2.2 _ _ wr3 s3)
      have KW3 := Lib.hid (KW.out.trans (wr3.mono K3.out.2.2.1))
      have hm3' : m3 = Q + 1 + 1 + 1 + n3 := HM3.out
      clear KS KW hm3 s3 wr3 K3
      have KS := KS3
      have KW := KW3
      clear KS3 KW3
      clear hm3'
      have hmb3 : m3 ≤ 1000000000000 := by have := HM3.out; omega
      clear c2 z2
      go_wp2
      go_roundw
      case rel =>
        refine ⟨j + 1, m3, by omega, by go_num, by first | rfl | go_num, ?_, ?_, KW.out⟩
        · rw [HN.out.1, HE.out.1, HN3.out]; have := HQ.out; have := HM3.out; omega
        · rw [HN.out.2, ← HQ.out, HE.out.2, HRP.out.1, HRP.out.2]
          have h := KS.out
          first | exact h | simpa using h
      case measure => simp [intOf]; omega
    · obtain rfl : j = l.length := by omega
      have KS := Lib.hid hS
      have HQ := Lib.hid hQ
      clear hS hQ
      go_wp2
      go_ret
      refine ⟨Q, ?_, rfl, ?_, hW⟩
      · have h := HQ.out; rw [List.take_length] at h; exact h
      · have h := KS.out; rw [List.take_length, List.drop_length] at h; simpa using h
theorem markValueS_all (l : List Va) : MkD 44 (rows Va.ds 4 l) := by
  have key : ∀ x : Va, MkD 44 (rows Va.ds 4 x.kids) := fun x => by
    refine Va.ind (P := fun x => MkD 44 (rows Va.ds 4 x.kids)) (fun k m t kids ih => ?_) x
    exact markValueS_w kids ih
  exact markValueS_w l (fun x _ => key x)
set_option maxHeartbeats 2000000 in
set_option maxRecDepth 20000 in
theorem heldValueS_w (l : List Va) (hl : ∀ x ∈ l, HdD 45 (rows Va.ds 4 x.kids)) : HdD 45 (rows Va.ds 4 l) := by
  intro v k z w hz h1 hk hv
  subst hz
  rw [rows_count] at hk ⊢
  have HC := Lib.hid hk
  rw [rows_mark] at hv
  obtain ⟨A, cap, rfl, hn, hc⟩ := hv.sl_form
  unfold maxLen at hc
  have HV := Lib.hid hv
  have HL := Lib.hid hl
  clear hv hl
  go_enter Try.func45, Try.ntmps45
  go_wp2
  go_loopw [1, 5] (fun kk i wr => ∃ (j Q : Nat), j ≤ l.length ∧ i = .int .i64 j ∧ kk = .int .i64 (Q : Int) ∧ Q = k + D.counts ((l.take j).flatMap Va.ds) ∧ Below w.heap.size w wr) (fun _ i _ => l.length - (intOf i).toNat)
  case atStart => exact ⟨0, k, Nat.zero_le _, rfl, rfl, by simp [D.counts], Below.refl _ _⟩
  case round =>
    obtain ⟨j, Q, hj, rfl, rfl, hQ, hb⟩ := hrel
    by_cases hlt : j < l.length
    · obtain ⟨x, hx⟩ : ∃ x, l[j]? = some x := ⟨l[j], List.getElem?_eq_getElem hlt⟩
      have hj0 : (0 : Int) ≤ (j : Int) := by omega
      have hj1 : (j : Int) < (l.length : Int) := by omega
      have hQ1 : 1 ≤ Q := by omega
      have hQb : Q + D.counts (Va.ds x) ≤ 1000000000000 := by have h2 := counts_take Va.ds l (j + 1); rw [counts_next hx] at h2; omega
      have HN := Lib.hid (And.intro (counts_next (f := Va.ds) hx) (marks_next (f := Va.ds) (k := k) hx))
      have HQ := Lib.hid hQ
      have HI := Lib.hid (HL.out x (List.mem_of_getElem? hx))
      have hv := HV.out.below hb
      rw [flat_take_drop Va.ds l j, rows_split hx, D.marks_append, ← hQ, D.marks_append] at hv
      obtain ⟨R, hR⟩ : ∃ R, D.marks (Q + D.counts (Va.ds x)) ((l.drop (j + 1)).flatMap Va.ds) = R := ⟨_, rfl⟩
      rw [hR] at hv
      obtain ⟨P, hP⟩ : ∃ P, D.marks k ((l.take j).flatMap Va.ds) = P := ⟨_, rfl⟩
      have hPl : P.length = j * 4 := by rw [← hP, D.marks_length, flat_length Va.len, List.length_take, Nat.min_eq_left (by omega)]
      rw [hP] at hv
      have HRP := Lib.hid (And.intro hR hP)
      clear hR hP hx hQ
      obtain ⟨x_k, x_m, x_t, x_kids⟩ := x
      replace HI := Lib.hid (show HdD 45 (rows Va.ds 4 x_kids) from HI.out)
      have e0 : Va.ds (Va.mk x_k x_m x_t x_kids) = [.int x_k, .int x_m, .str x_t, rows Va.ds 4 x_kids] := by simp [Va.ds_eq]
      have e1 : D.counts (Va.ds (Va.mk x_k x_m x_t x_kids)) = 1 + 1 + 1 + D.counts (x_kids.flatMap Va.ds) := by rw [e0]; simp [D.counts, D.count, rows] <;> omega
      rw [e1] at hQb
      obtain ⟨n3, hn3⟩ : ∃ n, D.counts (x_kids.flatMap Va.ds) = n := ⟨_, rfl⟩
      rw [hn3] at hQb
      have e2 : D.marks Q (Va.ds (Va.mk x_k x_m x_t x_kids)) = [D.int ((Q : Nat) : Int), D.int ((Q + 1 : Nat) : Int), D.str (markT (Q + 1 + 1)), D.sl x_kids.length 4 (D.marks (Q + 1 + 1 + 1) (x_kids.flatMap Va.ds))] := by rw [e0]; simp only [D.marks, D.mark, D.count, rows]
      have HE := Lib.hid (And.intro e1 e2)
      have HN3 := Lib.hid hn3
      rw [e2] at hv
      have KS := Lib.hid hv
      clear hv e0 e1 e2 hn3
      obtain ⟨g0, off0, v0, hA0, hg0, c0, hat0⟩ := D.At.field (P := P) (d := D.int ((Q : Nat) : Int)) (R := D.int ((Q + 1 : Nat) : Int) :: D.str (markT (Q + 1 + 1)) :: D.sl x_kids.length 4 (D.marks (Q + 1 + 1 + 1) (x_kids.flatMap Va.ds)) :: R) (by have h := KS.out; first | exact h | simpa using h)
      subst hA0
      rw [hPl] at c0
      obtain rfl := hat0.int_form
      clear hat0
      obtain ⟨g1, off1, v1, hA1, hg1, c1, hat1⟩ := D.At.field (P := (P ++ [D.int ((Q : Nat) : Int)])) (d := D.int ((Q + 1 : Nat) : Int)) (R := D.str (markT (Q + 1 + 1)) :: D.sl x_kids.length 4 (D.marks (Q + 1 + 1 + 1) (x_kids.flatMap Va.ds)) :: R) (by have h := KS.out; first | exact h | simpa using h)
      obtain ⟨rfl, rfl⟩ : g0 = g1 ∧ off0 = off1 := by simpa using hA1
      clear hA1
      rw [show (P ++ [D.int ((Q : Nat) : Int)]).length = j * 4 + 1 by simp [hPl]] at c1
      obtain rfl := hat1.int_form
      clear hat1
      rw [show off0 + (j * 4 + 1) = off0 + j * 4 + 1 by omega] at c1
      obtain ⟨g2, off2, v2, hA2, hg2, c2, hat2⟩ := D.At.field (P := (P ++ [D.int ((Q : Nat) : Int), D.int ((Q + 1 : Nat) : Int)])) (d := D.str (markT (Q + 1 + 1))) (R := D.sl x_kids.length 4 (D.marks (Q + 1 + 1 + 1) (x_kids.flatMap Va.ds)) :: R) (by have h := KS.out; first | exact h | simpa using h)
      obtain ⟨rfl, rfl⟩ : g0 = g2 ∧ off0 = off2 := by simpa using hA2
      clear hA2
      rw [show (P ++ [D.int ((Q : Nat) : Int), D.int ((Q + 1 : Nat) : Int)]).length = j * 4 + 2 by simp [hPl]] at c2
      obtain rfl := hat2.str_form
      clear hat2
      rw [show off0 + (j * 4 + 2) = off0 + j * 4 + 2 by omega] at c2
      obtain ⟨g3, off3, v3, hA3, hg3, c3, hat3⟩ := D.At.field (P := (P ++ [D.int ((Q : Nat) : Int), D.int ((Q + 1 : Nat) : Int), D.str (markT (Q + 1 + 1))])) (d := D.sl x_kids.length 4 (D.marks (Q + 1 + 1 + 1) (x_kids.flatMap Va.ds))) (R := R) (by have h := KS.out; first | exact h | simpa using h)
      obtain ⟨rfl, rfl⟩ : g0 = g3 ∧ off0 = off3 := by simpa using hA3
      clear hA3
      rw [show (P ++ [D.int ((Q : Nat) : Int), D.int ((Q + 1 : Nat) : Int), D.str (markT (Q + 1 + 1))]).length = j * 4 + 3 by simp [hPl]] at c3
      obtain ⟨A3, c_3, rfl, -, -⟩ := hat3.sl_form
      have K3 := Lib.hid hat3
      clear hat3
      rw [show off0 + (j * 4 + 3) = off0 + j * 4 + 3 by omega] at c3
      have B0 := hb
      clear hb KS
      have hgl : g0 < wr.heap.size := hg0
      have y2 : ((markT (Q + 1 + 1)).toList != (markT (Q + 1 + 1)).toList) = false := by simp
      go_wp2_with fail
      refine wp_region_quiet_below (by kernel_rfl) (by kernel_rfl) ?_
      have r2 := cell_regrown c2
      repeat (first | go_big_quiet_step (exact Calls.regrown_of (markText_z (Q + 1 + 1) _ (by push_cast; first | rfl | omega) (by omega) (by omega) _)) | quiet_step (exact Calls.regrown_of (markText_z (Q + 1 + 1) _ (by push_cast; first | rfl | omega) (by omega) (by omega) _)))
      refine wpQuiet_nil ?_
      intro w1 hw1
      have hb1 := below_of_regrown hw1
      have B1 := B0.trans (hb1.mono B0.size)
      replace c3 := (hb1.cell (p := ⟨g0, off0 + j * 4 + 3, none⟩) hgl).trans c3
      replace K3 := Lib.hid (K3.out.below hb1)
      replace hgl := Nat.lt_of_lt_of_le hgl hb1.size
      clear hw1 hb1 B0 c2 r2
      go_wp2_with fail
      refine ((HI.out) _ (Q + 1 + 1 + 1) _ _ (by push_cast; first | rfl | omega) (by omega) (by rw [rows_count, HN3.out]; omega) K3.out).mono ?_
      rintro e w2 ⟨m3, hm3, rfl, hb2⟩
      have HM3 := Lib.hid (show m3 = Q + 1 + 1 + 1 + n3 from by rw [hm3, rows_count, HN3.out])
      have hmb3 : ¬ ((m3 : Int) < 0) := by omega
      have B2 := B1.trans (hb2.mono B1.size)
      replace hgl := Nat.lt_of_lt_of_le hgl hb2.size
      clear hm3 hb2 B1 c3 K3
      go_wp2
      go_roundw
      case rel => exact ⟨j + 1, m3, by omega, by go_num, by first | rfl | go_num, by rw [HN.out.1, HE.out.1, HN3.out]; have := HQ.out; have := HM3.out; omega, B2⟩
      case measure => simp [intOf]; omega
    · obtain rfl : j = l.length := by omega
      have HQ := Lib.hid hQ
      clear hQ
      go_wp2
      go_ret
      exact ⟨Q, by have h := HQ.out; rw [List.take_length] at h; exact h, rfl, hb⟩
theorem heldValueS_all (l : List Va) : HdD 45 (rows Va.ds 4 l) := by
  have key : ∀ x : Va, HdD 45 (rows Va.ds 4 x.kids) := fun x => by
    refine Va.ind (P := fun x => HdD 45 (rows Va.ds 4 x.kids)) (fun k m t kids ih => ?_) x
    exact heldValueS_w kids ih
  exact heldValueS_w l (fun x _ => key x)
end Go.Proofs.Ytnfkdncfbojiiaa
