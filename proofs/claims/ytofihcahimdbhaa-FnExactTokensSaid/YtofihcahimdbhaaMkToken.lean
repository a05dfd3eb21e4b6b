/- Token: rows of such, marked and held. -/
import Derived.Test.YtofihcahimdbhaaMkString
import Derived.Deep.QuietTactic
import Derived.BigQuiet
namespace Go.Proofs.Ytofihcahimdbhaa
open Go.RowKit

set_option maxHeartbeats 2000000 in
set_option maxRecDepth 20000 in
theorem markTokenS_w (l : List Tok) : MkD 7 (rows Tok.ds 3 l) := by
  intro v bl k z w hz h1 hk hv hnd
  subst hz
  rw [rows_count] at hk ⊢
  have HC := Lib.hid hk
  rw [rows_mark]
  unfold rows at hv
  obtain ⟨A, cap, rfl, hn, hc, -⟩ := hv.sl_form
  unfold maxLen at hc
  have HV := Lib.hid hv
  clear hv
  go_enter Try.func7, Try.ntmps7
  go_wp2
  go_loopw [1, 5] (fun kk i wr => ∃ (j Q : Nat), j ≤ l.length ∧ i = .int .i64 j ∧ kk = .int .i64 (Q : Int) ∧ Q = k + D.counts ((l.take j).flatMap Tok.ds) ∧ D.Sep wr (.sl l.length 3 (D.marks k ((l.take j).flatMap Tok.ds) ++ (l.drop j).flatMap Tok.ds)) bl (.slice A l.length cap) ∧ Wr bl w wr) (fun _ i _ => l.length - (intOf i).toNat)
  case atStart => exact ⟨0, k, Nat.zero_le _, rfl, rfl, by simp [D.counts], by simpa [D.marks] using HV.out, Wr.refl _ _⟩
  case round =>
    obtain ⟨j, Q, hj, rfl, rfl, hQ, hS, hW⟩ := hrel
    by_cases hlt : j < l.length
    · obtain ⟨x, hx⟩ : ∃ x, l[j]? = some x := ⟨l[j], List.getElem?_eq_getElem hlt⟩
      have hj0 : (0 : Int) ≤ (j : Int) := by omega
      have hj1 : (j : Int) < (l.length : Int) := by omega
      have hQ1 : 1 ≤ Q := by omega
      have hQb : Q + D.counts (Tok.ds x) ≤ 1000000000000 := by have h2 := counts_take Tok.ds l (j + 1); rw [counts_next hx] at h2; omega
      have HN := Lib.hid (And.intro (counts_next (f := Tok.ds) hx) (marks_next (f := Tok.ds) (k := k) hx))
      have HQ := Lib.hid hQ
      rw [rows_split hx] at hS
      obtain ⟨R, hR⟩ : ∃ R, (l.drop (j + 1)).flatMap Tok.ds = R := ⟨_, rfl⟩
      rw [hR] at hS
      obtain ⟨P, hP⟩ : ∃ P, D.marks k ((l.take j).flatMap Tok.ds) = P := ⟨_, rfl⟩
      have hPl : P.length = j * 3 := by rw [← hP, D.marks_length, flat_length Tok.len, List.length_take, Nat.min_eq_left (by omega)]
      rw [hP] at hS
      have HRP := Lib.hid (And.intro hR hP)
      clear hR hP hx hQ
      obtain ⟨x_kind, x_text, x_line⟩ := x
      have e0 : Tok.ds (⟨x_kind, x_text, x_line⟩ : Tok) = [.int x_kind, .str x_text, .int x_line] := by simp [Tok.ds]
      have e1 : D.counts (Tok.ds (⟨x_kind, x_text, x_line⟩ : Tok)) = 3 := by rw [e0]; simp [D.counts, D.count]
      rw [e1] at hQb
      have e2 : D.marks Q (Tok.ds (⟨x_kind, x_text, x_line⟩ : Tok)) = [D.int ((Q : Nat) : Int), D.str (markT (Q + 1)), D.int ((Q + 1 + 1 : Nat) : Int)] := by rw [e0]; simp only [D.marks, D.mark, D.count]
      have HE := Lib.hid (And.intro e1 e2)
      rw [e0] at hS
      have S0 : D.Sep wr (.sl l.length 3 (P ++ .int x_kind :: (.str x_text :: .int x_line :: R))) bl (.slice A l.length cap) := hS
      obtain ⟨g, rfl, hg⟩ := S0.block hnd
      have KS := Lib.hid S0
      clear hS S0 e0 e1 e2
      have KW := Lib.hid hW
      clear hW
      obtain ⟨⟨c0, z0⟩, f0⟩ := D.Sep.step_int (j * 3) (by simp [hPl]) KS.out hnd
      have KS0 := Lib.hid (f0 ((Q : Nat) : Int) (by omega))
      have KW0 := Lib.hid (KW.out.set (p := ⟨g, j * 3, none⟩) hg (.int .i64 ((Q : Nat) : Int)))
      clear KS KW f0
      have KS := KS0
      have KW := KW0
      clear KS0 KW0
      go_wp2_with fail
      refine (markText_z (Q + 1) _ (by push_cast; first | rfl | omega) (by omega) (by omega) _).mono ?_
      rintro e w1 ⟨rfl, hb1⟩
      have KS1 := Lib.hid (D.Sep.below KS.out hb1)
      have KW1 := Lib.hid (KW.out.trans (Wr.of_below hb1))
      clear KS KW hb1
      have KS := KS1
      have KW := KW1
      clear KS1 KW1
      clear c0 z0
      obtain ⟨⟨c1, z1⟩, f1⟩ := D.Sep.step_str (j * 3 + 1) (by simp [hPl]) KS.out hnd
      have KS1 := Lib.hid (f1 (markT (Q + 1)) (mk_str (markT_size _)))
      have KW1 := Lib.hid (KW.out.set (p := ⟨g, j * 3 + 1, none⟩) hg (.string (markT (Q + 1))))
      clear KS KW f1
      have KS := KS1
      have KW := KW1
      clear KS1 KW1
      obtain ⟨⟨c2, z2⟩, f2⟩ := D.Sep.step_int (j * 3 + 2) (by simp [hPl]) KS.out hnd
      rw [cell_set_ne _ _ _ _ _ (by omega)] at c2
      rw [frozen_set] at z2
      have KS2 := Lib.hid (f2 ((Q + 1 + 1 : Nat) : Int) (by omega))
      have KW2 := Lib.hid (KW.out.set (p := ⟨g, j * 3 + 2, none⟩) hg (.int .i64 ((Q + 1 + 1 : Nat) : Int)))
      clear KS KW f2
      have KS := KS2
      have KW := KW2
      clear KS2 KW2
      go_wp2
      go_roundw
      case rel =>
        refine ⟨j + 1, Q + 3, by omega, by go_num, by first | rfl | go_num, ?_, ?_, KW.out⟩
        · rw [HN.out.1, HE.out.1]; have := HQ.out; omega
        · rw [HN.out.2, ← HQ.out, HE.out.2, HRP.out.1, HRP.out.2]
          have h := KS.out
          first | exact h | simpa using h
      case measure => simp [intOf]; omega
    · obtain rfl : j = l.length := by omega
      have KS := Lib.hid hS
      have HQ := Lib.hid hQ
      clear hS hQ
      go_wp2
      go_ret
      refine ⟨Q, ?_, rfl, ?_, hW⟩
      · have h := HQ.out; rw [List.take_length] at h; exact h
      · have h := KS.out; rw [List.take_length, List.drop_length] at h; simpa using h
theorem markTokenS_all (l : List Tok) : MkD 7 (rows Tok.ds 3 l) := markTokenS_w l
set_option maxHeartbeats 2000000 in
set_option maxRecDepth 20000 in
theorem heldTokenS_w (l : List Tok) : HdD 8 (rows Tok.ds 3 l) := by
  intro v k z w hz h1 hk hv
  subst hz
  rw [rows_count] at hk ⊢
  have HC := Lib.hid hk
  rw [rows_mark] at hv
  obtain ⟨A, cap, rfl, hn, hc⟩ := hv.sl_form
  unfold maxLen at hc
  have HV := Lib.hid hv
  clear hv
  go_enter Try.func8, Try.ntmps8
  go_wp2
  go_loopw [1, 5] (fun kk i wr => ∃ (j Q : Nat), j ≤ l.length ∧ i = .int .i64 j ∧ kk = .int .i64 (Q : Int) ∧ Q = k + D.counts ((l.take j).flatMap Tok.ds) ∧ Below w.heap.size w wr) (fun _ i _ => l.length - (intOf i).toNat)
  case atStart => exact ⟨0, k, Nat.zero_le _, rfl, rfl, by simp [D.counts], Below.refl _ _⟩
  case round =>
    obtain ⟨j, Q, hj, rfl, rfl, hQ, hb⟩ := hrel
    by_cases hlt : j < l.length
    · obtain ⟨x, hx⟩ : ∃ x, l[j]? = some x := ⟨l[j], List.getElem?_eq_getElem hlt⟩
      have hj0 : (0 : Int) ≤ (j : Int) := by omega
      have hj1 : (j : Int) < (l.length : Int) := by omega
      have hQ1 : 1 ≤ Q := by omega
      have hQb : Q + D.counts (Tok.ds x) ≤ 1000000000000 := by have h2 := counts_take Tok.ds l (j + 1); rw [counts_next hx] at h2; omega
      have HN := Lib.hid (And.intro (counts_next (f := Tok.ds) hx) (marks_next (f := Tok.ds) (k := k) hx))
      have HQ := Lib.hid hQ
      have hv := HV.out.below hb
      rw [flat_take_drop Tok.ds l j, rows_split hx, D.marks_append, ← hQ, D.marks_append] at hv
      obtain ⟨R, hR⟩ : ∃ R, D.marks (Q + D.counts (Tok.ds x)) ((l.drop (j + 1)).flatMap Tok.ds) = R := ⟨_, rfl⟩
      rw [hR] at hv
      obtain ⟨P, hP⟩ : ∃ P, D.marks k ((l.take j).flatMap Tok.ds) = P := ⟨_, rfl⟩
      have hPl : P.length = j * 3 := by rw [← hP, D.marks_length, flat_length Tok.len, List.length_take, Nat.min_eq_left (by omega)]
      rw [hP] at hv
      have HRP := Lib.hid (And.intro hR hP)
      clear hR hP hx hQ
      obtain ⟨x_kind, x_text, x_line⟩ := x
      have e0 : Tok.ds (⟨x_kind, x_text, x_line⟩ : Tok) = [.int x_kind, .str x_text, .int x_line] := by simp [Tok.ds]
      have e1 : D.counts (Tok.ds (⟨x_kind, x_text, x_line⟩ : Tok)) = 3 := by rw [e0]; simp [D.counts, D.count]
      rw [e1] at hQb
      have e2 : D.marks Q (Tok.ds (⟨x_kind, x_text, x_line⟩ : Tok)) = [D.int ((Q : Nat) : Int), D.str (markT (Q + 1)), D.int ((Q + 1 + 1 : Nat) : Int)] := by rw [e0]; simp only [D.marks, D.mark, D.count]
      have HE := Lib.hid (And.intro e1 e2)
      rw [e2] at hv
      have KS := Lib.hid hv
      clear hv e0 e1 e2
      obtain ⟨g0, off0, v0, hA0, hg0, c0, hat0⟩ := D.At.field (P := P) (d := D.int ((Q : Nat) : Int)) (R := D.str (markT (Q + 1)) :: D.int ((Q + 1 + 1 : Nat) : Int) :: R) (by have h := KS.out; first | exact h | simpa using h)
      subst hA0
      rw [hPl] at c0
      obtain rfl := hat0.int_form
      clear hat0
      obtain ⟨g1, off1, v1, hA1, hg1, c1, hat1⟩ := D.At.field (P := (P ++ [D.int ((Q : Nat) : Int)])) (d := D.str (markT (Q + 1))) (R := D.int ((Q + 1 + 1 : Nat) : Int) :: R) (by have h := KS.out; first | exact h | simpa using h)
      obtain ⟨rfl, rfl⟩ : g0 = g1 ∧ off0 = off1 := by simpa using hA1
      clear hA1
      rw [show (P ++ [D.int ((Q : Nat) : Int)]).length = j * 3 + 1 by simp [hPl]] at c1
      obtain rfl := hat1.str_form
      clear hat1
      rw [show off0 + (j * 3 + 1) = off0 + j * 3 + 1 by omega] at c1
      obtain ⟨g2, off2, v2, hA2, hg2, c2, hat2⟩ := D.At.field (P := (P ++ [D.int ((Q : Nat) : Int), D.str (markT (Q + 1))])) (d := D.int ((Q + 1 + 1 : Nat) : Int)) (R := R) (by have h := KS.out; first | exact h | simpa using h)
      obtain ⟨rfl, rfl⟩ : g0 = g2 ∧ off0 = off2 := by simpa using hA2
      clear hA2
      rw [show (P ++ [D.int ((Q : Nat) : Int), D.str (markT (Q + 1))]).length = j * 3 + 2 by simp [hPl]] at c2
      obtain rfl := hat2.int_form
      clear hat2
      rw [show off0 + (j * 3 + 2) = off0 + j * 3 + 2 by omega] at c2
      have B0 := hb
      clear hb KS
      have hgl : g0 < wr.heap.size := hg0
      have y1 : ((markT (Q + 1)).toList != (markT (Q + 1)).toList) = false := by simp
      go_wp2_with fail
      refine wp_region_quiet_below (by kernel_rfl) (by kernel_rfl) ?_
      have r1 := cell_regrown c1
      repeat (first | go_big_quiet_step (exact Calls.regrown_of (markText_z (Q + 1) _ (by push_cast; first | rfl | omega) (by omega) (by omega) _)) | quiet_step (exact Calls.regrown_of (markText_z (Q + 1) _ (by push_cast; first | rfl | omega) (by omega) (by omega) _)))
      refine wpQuiet_nil ?_
      intro w1 hw1
      have hb1 := below_of_regrown hw1
      have B1 := B0.trans (hb1.mono B0.size)
      replace c2 := (hb1.cell (p := ⟨g0, off0 + j * 3 + 2, none⟩) hgl).trans c2
      replace hgl := Nat.lt_of_lt_of_le hgl hb1.size
      clear hw1 hb1 B0 c1 r1
      go_wp2
      go_roundw
      case rel => exact ⟨j + 1, Q + 3, by omega, by go_num, by first | rfl | go_num, by rw [HN.out.1, HE.out.1]; have := HQ.out; omega, B1⟩
      case measure => simp [intOf]; omega
    · obtain rfl : j = l.length := by omega
      have HQ := Lib.hid hQ
      clear hQ
      go_wp2
      go_ret
      exact ⟨Q, by have h := HQ.out; rw [List.take_length] at h; exact h, rfl, hb⟩
theorem heldTokenS_all (l : List Tok) : HdD 8 (rows Tok.ds 3 l) := heldTokenS_w l
end Go.Proofs.Ytofihcahimdbhaa
