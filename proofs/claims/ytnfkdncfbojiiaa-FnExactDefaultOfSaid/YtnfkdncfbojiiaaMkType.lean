/- Type: rows of such, marked and held. -/
import Derived.Test.YtnfkdncfbojiiaaMkString
import Derived.Deep.QuietTactic
import Derived.BigQuiet
namespace Go.Proofs.Ytnfkdncfbojiiaa
open Go.RowKit

set_option maxHeartbeats 2000000 in
set_option maxRecDepth 20000 in
theorem markTypeS_w (l : List Ty) (hl : ∀ x ∈ l, MkD 37 (rows Ty.ds 4 x.kids)) : MkD 37 (rows Ty.ds 4 l) := by
  intro v bl k z w hz h1 hk hv hnd
  subst hz
  rw [rows_count] at hk ⊢
  have HC := Lib.hid hk
  rw [rows_mark]
  unfold rows at hv
  obtain ⟨A, cap, rfl, hn, hc, -⟩ := hv.sl_form
  unfold maxLen at hc
  have HV := Lib.hid hv
  have HL := Lib.hid hl
  clear hv hl
  go_enter Try.func37, Try.ntmps37
  go_wp2
  go_loopw [1, 5] (fun kk i wr => ∃ (j Q : Nat), j ≤ l.length ∧ i = .int .i64 j ∧ kk = .int .i64 (Q : Int) ∧ Q = k + D.counts ((l.take j).flatMap Ty.ds) ∧ D.Sep wr (.sl l.length 4 (D.marks k ((l.take j).flatMap Ty.ds) ++ (l.drop j).flatMap Ty.ds)) bl (.slice A l.length cap) ∧ Wr bl w wr) (fun _ i _ => l.length - (intOf i).toNat)
  case atStart => exact ⟨0, k, Nat.zero_le _, rfl, rfl, by simp [D.counts], by simpa [D.marks] using HV.out, Wr.refl _ _⟩
  case round =>
    obtain ⟨j, Q, hj, rfl, rfl, hQ, hS, hW⟩ := hrel
    by_cases hlt : j < l.length
    · obtain ⟨x, hx⟩ : ∃ x, l[j]? = some x := ⟨l[j], List.getElem?_eq_getElem hlt⟩
      have hj0 : (0 : Int) ≤ (j : Int) := by omega
      have hj1 : (j : Int) < (l.length : Int) := by omega
      have hQ1 : 1 ≤ Q := by omega
      have hQb : Q + D.counts (Ty.ds x) ≤ 1000000000000 := by have h2 := counts_take Ty.ds l (j + 1); rw [counts_next hx] at h2; omega
      have HN := Lib.hid (And.intro (counts_next (f := Ty.ds) hx) (marks_next (f := Ty.ds) (k := k) hx))
      have HQ := Lib.hid hQ
      have HI := Lib.hid (HL.out x (List.mem_of_getElem? hx))
      rw [rows_split hx] at hS
      obtain ⟨R, hR⟩ : ∃ R, (l.drop (j + 1)).flatMap Ty.ds = R := ⟨_, rfl⟩
      rw [hR] at hS
      obtain ⟨P, hP⟩ : ∃ P, D.marks k ((l.take j).flatMap Ty.ds) = P := ⟨_, rfl⟩
      have hPl : P.length = j * 4 := by rw [← hP, D.marks_length, flat_length Ty.len, List.length_take, Nat.min_eq_left (by omega)]
      rw [hP] at hS
      have HRP := Lib.hid (And.intro hR hP)
      clear hR hP hx hQ
      obtain ⟨x_k, x_n, x_l, x_kids⟩ := x
      replace HI := Lib.hid (show MkD 37 (rows Ty.ds 4 x_kids) from HI.out)
      have e0 : Ty.ds (Ty.mk x_k x_n x_l x_kids) = [.int x_k, .str x_n, strs x_l, rows Ty.ds 4 x_kids] := by simp [Ty.ds_eq]
      have e1 : D.counts (Ty.ds (Ty.mk x_k x_n x_l x_kids)) = 1 + 1 + D.counts (x_l.flatMap strD) + D.counts (x_kids.flatMap Ty.ds) := by rw [e0]; simp [D.counts, D.count, strs, rows] <;> omega
      rw [e1] at hQb
      obtain ⟨n2, hn2⟩ : ∃ n, D.counts (x_l.flatMap strD) = n := ⟨_, rfl⟩
      obtain ⟨n3, hn3⟩ : ∃ n, D.counts (x_kids.flatMap Ty.ds) = n := ⟨_, rfl⟩
      rw [hn2, hn3] at hQb
      have e2 : D.marks Q (Ty.ds (Ty.mk x_k x_n x_l x_kids)) = [D.int ((Q : Nat) : Int), D.str (markT (Q + 1)), D.sl x_l.length 1 (D.marks (Q + 1 + 1) (x_l.flatMap strD)), D.sl x_kids.length 4 (D.marks (Q + 1 + 1 + n2) (x_kids.flatMap Ty.ds))] := by rw [e0]; simp only [D.marks, D.mark, D.count, strs, rows, hn2]
      have HE := Lib.hid (And.intro e1 e2)
      have HN2 := Lib.hid hn2
      have HN3 := Lib.hid hn3
      rw [e0] at hS
      have S0 : D.Sep wr (.sl l.length 4 (P ++ .int x_k :: (.str x_n :: .sl x_l.length 1 (x_l.flatMap strD) :: .sl x_kids.length 4 (x_kids.flatMap Ty.ds) :: R))) bl (.slice A l.length cap) := hS
      obtain ⟨g, rfl, hg⟩ := S0.block hnd
      have KS := Lib.hid S0
      clear hS S0 e0 e1 e2 hn2 hn3
      have KW := Lib.hid hW
      clear hW
      obtain ⟨⟨c0, z0⟩, f0⟩ := D.Sep.step_int (j * 4) (by simp [hPl]) KS.out hnd
      have KS0 := Lib.hid (f0 ((Q : Nat) : Int) (by omega))
      have KW0 := Lib.hid (KW.out.set (p := ⟨g, j * 4, none⟩) hg (.int .i64 ((Q : Nat) : Int)))
      clear KS KW f0
      have KS := KS0
      have KW := KW0
      clear KS0 KW0
      go_wp2_with fail
      refine (markText_z (Q + 1) _ (by push_cast; first | rfl | omega) (by omega) (by omega) _).mono ?_
      rintro e w1 ⟨rfl, hb1⟩
      have KS1 := Lib.hid (D.Sep.below KS.out hb1)
      have KW1 := Lib.hid (KW.out.trans (Wr.of_below hb1))
      clear KS KW hb1
      have KS := KS1
      have KW := KW1
      clear KS1 KW1
      clear c0 z0
      obtain ⟨⟨c1, z1⟩, f1⟩ := D.Sep.step_str (j * 4 + 1) (by simp [hPl]) KS.out hnd
      have KS1 := Lib.hid (f1 (markT (Q + 1)) (mk_str (markT_size _)))
      have KW1 := Lib.hid (KW.out.set (p := ⟨g, j * 4 + 1, none⟩) hg (.string (markT (Q + 1))))
      clear KS KW f1
      have KS := KS1
      have KW := KW1
      clear KS1 KW1
      obtain ⟨l2, A2, c_2, c2, s2, nd2, sub2, f2⟩ := D.Sep.step_sl (j * 4 + 2) (by simp [hPl]) KS.out hnd
      rw [cell_set_ne _ _ _ _ _ (by omega)] at c2
      have K2 := Lib.hid (And.intro s2 (And.intro nd2 (And.intro sub2 f2)))
      clear s2 nd2 sub2 f2
      go_wp2_with fail
      refine ((markStringS_w x_l) _ l2 (Q + 1 + 1) _ _ (by push_cast; first | rfl | omega) (by omega) (by rw [rows_count, HN2.out]; omega) K2.out.1 K2.out.2.1).mono ?_
      rintro e w2 ⟨m2, hm2, rfl, s2, wr2⟩
      have HM2 := Lib.hid (show m2 = Q + 1 + 1 + n2 from by rw [hm2, rows_count, HN2.out])
      have KS2 := Lib.hid (K2.out.2.2.2 _ _ wr2 s2)
      have KW2 := Lib.hid (KW.out.trans (wr2.mono K2.out.2.2.1))
      have hm2' : m2 = Q + 1 + 1 + n2 := HM2.out
      clear KS KW hm2 s2 wr2 K2
      have KS := KS2
      have KW := KW2
      clear KS2 KW2
      clear hm2'
      have hmb2 : m2 ≤ 1000000000000 := by have := HM2.out; omega
      clear c1 z1
      obtain ⟨l3, A3, c_3, c3, s3, nd3, sub3, f3⟩ := D.Sep.step_sl (j * 4 + 3) (by simp [hPl]) KS.out hnd
      have K3 := Lib.hid (And.intro s3 (And.intro nd3 (And.intro sub3 f3)))
      clear s3 nd3 sub3 f3
      go_wp2_with fail
      refine ((HI.out) _ l3 (Q + 1 + 1 + n2) _ _ (by have := HM2.out; push_cast; first | rfl | omega) (by omega) (by rw [rows_count, HN3.out]; omega) K3.out.1 K3.out.2.1).mono ?_
      rintro e w3 ⟨m3, hm3, rfl, s3, wr3⟩
      have HM3 := Lib.hid (show m3 = Q + 1 + 1 + n2 + n3 from by rw [hm3, rows_count, HN3.out])
      have KS3 := Lib.hid (K3.out.2.2.2 _ _ wr3 s3)
      have KW3 := Lib.hid (KW.out.trans (wr3.mono K3.out.2.2.1))
      have hm3' : m3 = Q + 1 + 1 + n2 + n3 := HM3.out
      clear KS KW hm3 s3 wr3 K3
      have KS := KS3
      have KW := KW3
      clear KS3 KW3
      clear hm3'
      have hmb3 : m3 ≤ 1000000000000 := by have := HM3.out; have := HM2.out; omega
      go_wp2
      go_roundw
      case rel =>
        refine ⟨j + 1, m3, by omega, by go_num, by first | rfl | go_num, ?_, ?_, KW.out⟩
        · rw [HN.out.1, HE.out.1, HN2.out, HN3.out]; have := HQ.out; have := HM2.out; have := HM3.out; omega
        · rw [HN.out.2, ← HQ.out, HE.out.2, HRP.out.1, HRP.out.2]
          have h := KS.out
          first | exact h | simpa using h
      case measure => simp [intOf]; omega
    · obtain rfl : j = l.length := by omega
      have KS := Lib.hid hS
      have HQ := Lib.hid hQ
      clear hS hQ
      go_wp2
      go_ret
      refine ⟨Q, ?_, rfl, ?_, hW⟩
      · have h := HQ.out; rw [List.take_length] at h; exact h
      · have h := KS.out; rw [List.take_length, List.drop_length] at h; simpa using h
theorem markTypeS_all (l : List Ty) : MkD 37 (rows Ty.ds 4 l) := by
  have key : ∀ x : Ty, MkD 37 (rows Ty.ds 4 x.kids) := fun x => by
    refine Ty.ind (P := fun x => MkD 37 (rows Ty.ds 4 x.kids)) (fun k n l kids ih => ?_) x
    exact markTypeS_w kids ih
  exact markTypeS_w l (fun x _ => key x)
end Go.Proofs.Ytnfkdncfbojiiaa
