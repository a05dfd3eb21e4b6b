/- The law's own marks: the text of a mark; a row of texts marked, and held against its marks. Marks: what the law's mark and held functions say. String: rows of such, marked and held. Value: rows of such, marked and held. The slices of a struct, one by one. Value: its slices marked and held. Type: rows of such, marked and held. Type: its slices marked and held. How many marks a type takes; readings told again. No program in sight. -/
import Derived.Test.YtcpadaelgdmipaaGreatDoorCore
import Derived.Test.YtcpadaelgdmipaaGreatDoorSep
import Derived.Test.YtcpadaelgdmipaaGreatDoorStrs
import Derived.Test.YtcpadaelgdmipaaGreatDoorTyM
import Derived.Deep.QuietTactic
import Derived.BigQuiet
import Derived.Test.YtcpadaelgdmipaaGreatDoorVaM
import Derived.Test.YtcpadaelgdmipaaGreatDoorSepIn
namespace Go.Proofs.YtcpadaelgdmipaaGreatDoor
open Go.RowKit

theorem one_string (w : World) (c : UInt8) (y : Int) (hy : (c.toNat : Int) = y) (g : Nat) (hg : w.heap.size = g) :
    (convert 113 9 (.slice (some ⟨g, 0, none⟩) 1 1)).run Tryz.prog (w.alloc (.cells #[.int .u8 y] 5)) = .ok (.string ⟨#[c]⟩) (w.alloc (.cells #[.int .u8 y] 5)) := by
  subst hy hg
  have := own_string (w := w.alloc (.cells #[.int .u8 (c.toNat : Int)] 5)) (base := 0) (v := .slice (some ⟨w.heap.size, 0, none⟩) 1 1) (n := 1) (l := [c])
    (World.ownsRow_lit _ _ _ (Nat.zero_le _) (by decide) (by rfl))
  exact this
theorem pow_small {q f : Nat} (h : q < 10 ^ f) (h0 : 0 < q) : ∃ f', f = f' + 1 ∧ q / 10 < 10 ^ f' := by
  cases f with
  | zero => simp at h; omega
  | succ f => exact ⟨f, rfl, by rw [Nat.div_lt_iff_lt_mul (by omega), ← Nat.pow_succ]; exact h⟩
set_option maxHeartbeats 1000000 in
set_option maxRecDepth 20000 in
theorem markText_w (k : Nat) (h0 : 1 ≤ k) (hk : k ≤ 1000000000000000000) (w : World) : Calls Tryz.prog 57 #[.int .i64 k] w fun e w' => e = .returned (.string (markT k)) ∧ Below w.heap.size w w' := by
  have hk0 : ¬ ((k : Int) ≤ 0) := by omega
  go_enter Tryz.func57, Tryz.ntmps57
  go_wp2
  go_loopw [0, 3] (fun kk out wr => ∃ (f q : Nat) (T : ByteArray), kk = .int .i64 q ∧ out = .string T ∧ q < 10 ^ f ∧ q ≤ k ∧ T.size + f ≤ 20 ∧ markD f q T.data.toList = markD 20 k [] ∧ Below w.heap.size w wr) (fun kk _ _ => (intOf kk).toNat)
  case atStart => exact ⟨20, k, ⟨#[]⟩, rfl, rfl, by omega, Nat.le_refl _, by decide, rfl, Below.refl _ _⟩
  case round =>
    obtain ⟨f, q, T, rfl, rfl, hf, hqk, hT, hm, hb⟩ := hrel
    have hbs := hb.size
    by_cases hq : 0 < q
    · obtain ⟨f', rfl, hf'⟩ := pow_small hf hq
      have hqi : (0 : Int) < (q : Int) := by omega
      have hcv := one_string wr (UInt8.ofNat (48 + q % 10)) (48 + (q : Int) % 10) (by simp; omega) wr.heap.size rfl
      have HM := Lib.hid hm
      have HF := Lib.hid (And.intro hf' hf)
      clear hm hf' hf
      go_wp2
      go_roundw
      case rel =>
        refine ⟨f', q / 10, ⟨#[UInt8.ofNat (48 + q % 10)]⟩ ++ T, by go_num, by simp, HF.out.1, by omega, ?_, ?_, hb.alloc hbs _⟩
        · rw [ByteArray.size_append]
          show 1 + T.size + f' ≤ 20
          omega
        · rw [← HM.out]
          conv => rhs; unfold markD
          rw [if_neg (by omega)]
          simp
      case measure => simp [intOf]; omega
    · obtain rfl : q = 0 := by omega
      have HM := Lib.hid hm
      clear hm hf
      go_wp2
      go_ret
      refine ⟨ret_eq ?_, hb⟩
      have h := HM.out
      have e : markD f 0 T.data.toList = T.data.toList := by cases f with | zero => rfl | succ f => unfold markD; rw [if_pos rfl]
      rw [e] at h
      unfold markT
      rw [if_neg (by omega), ← h]
      exact congrArg Value.string (ByteArray.ext (by simp))
end Go.Proofs.YtcpadaelgdmipaaGreatDoor
namespace Go.Proofs.YtcpadaelgdmipaaGreatDoor
open Go.RowKit

/-- A function lays marks from k on into all that it is handed. -/
def MkD (F : FuncId) (d : D) : Prop := ∀ (v : Value) (bl : List Nat) (k : Nat) (z : Int) (w : World), z = (k : Int) → 1 ≤ k → k + D.count d ≤ 1000000000000 → D.Sep w d bl v → bl.Nodup →
  Calls Tryz.prog F #[v, .int .i64 z] w fun e w' => ∃ m : Nat, m = k + D.count d ∧ e = .returned (.int .i64 (m : Int)) ∧ D.Sep w' (D.mark k d) bl v ∧ Wr bl w w'
/-- A function finds marks from k on in all that it is handed. -/
def HdD (F : FuncId) (d : D) : Prop := ∀ (v : Value) (k : Nat) (z : Int) (w : World), z = (k : Int) → 1 ≤ k → k + D.count d ≤ 1000000000000 → D.At w anyB (D.mark k d) v →
  Calls Tryz.prog F #[v, .int .i64 z] w fun e w' => ∃ m : Nat, m = k + D.count d ∧ e = .returned (.int .i64 (m : Int)) ∧ Below w.heap.size w w'
theorem markText_z (k : Nat) (z : Int) (hz : z = (k : Int)) (h0 : 1 ≤ k) (hk : k ≤ 1000000000000) (w : World) : Calls Tryz.prog 57 #[.int .i64 z] w fun e w' => e = .returned (.string (markT k)) ∧ Below w.heap.size w w' := by
  subst hz
  exact markText_w k h0 (by omega) w
theorem mk_str {s : ByteArray} (h : s.size ≤ 21) : s.size ≤ maxLen := by unfold maxLen; omega
theorem frozen_set (w : World) (a : Addr) (u : Value) (p : Addr) : (w.setCell a u).frozen? p = w.frozen? p := by simp
theorem rows_count {α : Type} (f : α → List D) (size : Nat) (l : List α) : D.count (rows f size l) = D.counts (l.flatMap f) := rfl
theorem rows_mark {α : Type} (f : α → List D) (size : Nat) (l : List α) (k : Nat) : D.mark k (rows f size l) = .sl l.length size (D.marks k (l.flatMap f)) := rfl
/-- Only the slices of a struct are marked. -/
def D.topC : D → Nat
  | .sl _ _ ds => D.counts ds
  | _ => 0
def D.topsC : List D → Nat
  | [] => 0
  | d :: r => D.topC d + D.topsC r
def D.topM (k : Nat) : D → D
  | .sl n size ds => .sl n size (D.marks k ds)
  | d => d
def D.topsM : Nat → List D → List D
  | _, [] => []
  | k, d :: r => D.topM k d :: D.topsM (k + D.topC d) r
def MkT (F : FuncId) (ds : List D) : Prop := ∀ (cs : List Value) (bl : List Nat) (k : Nat) (z : Int) (w : World), z = (k : Int) → 1 ≤ k → k + D.topsC ds ≤ 1000000000000 → D.Seps w ds bl cs → bl.Nodup →
  Calls Tryz.prog F #[.agg cs.toArray, .int .i64 z] w fun e w' => ∃ m : Nat, m = k + D.topsC ds ∧ e = .returned (.int .i64 (m : Int)) ∧ D.Seps w' (D.topsM k ds) bl cs ∧ Wr bl w w'
def HdT (F : FuncId) (ds : List D) : Prop := ∀ (cs : List Value) (k : Nat) (z : Int) (w : World), z = (k : Int) → 1 ≤ k → k + D.topsC ds ≤ 1000000000000 → D.Ats w anyB (D.topsM k ds) cs →
  Calls Tryz.prog F #[.agg cs.toArray, .int .i64 z] w fun e w' => ∃ m : Nat, m = k + D.topsC ds ∧ e = .returned (.int .i64 (m : Int)) ∧ Below w.heap.size w w'

end Go.Proofs.YtcpadaelgdmipaaGreatDoor
namespace Go.Proofs.YtcpadaelgdmipaaGreatDoor
open Go.RowKit

set_option maxHeartbeats 2000000 in
set_option maxRecDepth 20000 in
theorem markStringS_w (l : List ByteArray) : MkD 41 (rows strD 1 l) := by
  intro v bl k z w hz h1 hk hv hnd
  subst hz
  rw [rows_count] at hk ⊢
  have HC := Lib.hid hk
  rw [rows_mark]
  unfold rows at hv
  obtain ⟨A, cap, rfl, hn, hc, -⟩ := hv.sl_form
  unfold maxLen at hc
  have HV := Lib.hid hv
  clear hv
  go_enter Tryz.func41, Tryz.ntmps41
  go_wp2
  go_loopw [1, 5] (fun kk i wr => ∃ (j Q : Nat), j ≤ l.length ∧ i = .int .i64 j ∧ kk = .int .i64 (Q : Int) ∧ Q = k + D.counts ((l.take j).flatMap strD) ∧ D.Sep wr (.sl l.length 1 (D.marks k ((l.take j).flatMap strD) ++ (l.drop j).flatMap strD)) bl (.slice A l.length cap) ∧ Wr bl w wr) (fun _ i _ => l.length - (intOf i).toNat)
  case atStart => exact ⟨0, k, Nat.zero_le _, rfl, rfl, by simp [D.counts], by simpa [D.marks] using HV.out, Wr.refl _ _⟩
  case round =>
    obtain ⟨j, Q, hj, rfl, rfl, hQ, hS, hW⟩ := hrel
    by_cases hlt : j < l.length
    · obtain ⟨x, hx⟩ : ∃ x, l[j]? = some x := ⟨l[j], List.getElem?_eq_getElem hlt⟩
      have hj0 : (0 : Int) ≤ (j : Int) := by omega
      have hj1 : (j : Int) < (l.length : Int) := by omega
      have hQ1 : 1 ≤ Q := by omega
      have hQb : Q + D.counts (strD x) ≤ 1000000000000 := by have h2 := counts_take strD l (j + 1); rw [counts_next hx] at h2; omega
      have HN := Lib.hid (And.intro (counts_next (f := strD) hx) (marks_next (f := strD) (k := k) hx))
      have HQ := Lib.hid hQ
      rw [rows_split hx] at hS
      obtain ⟨R, hR⟩ : ∃ R, (l.drop (j + 1)).flatMap strD = R := ⟨_, rfl⟩
      rw [hR] at hS
      obtain ⟨P, hP⟩ : ∃ P, D.marks k ((l.take j).flatMap strD) = P := ⟨_, rfl⟩
      have hPl : P.length = j := by rw [← hP, D.marks_length, flat_length strD_length, List.length_take, Nat.min_eq_left (by omega)]; omega
      rw [hP] at hS
      have HRP := Lib.hid (And.intro hR hP)
      clear hR hP hx hQ
      have e0 : strD x = [.str x] := by simp [strD]
      have e1 : D.counts (strD x) = 1 := by rw [e0]; simp [D.counts, D.count]
      rw [e1] at hQb
      have e2 : D.marks Q (strD x) = [D.str (markT (Q))] := by rw [e0]; simp only [D.marks, D.mark]
      have HE := Lib.hid (And.intro e1 e2)
      rw [e0] at hS
      have S0 : D.Sep wr (.sl l.length 1 (P ++ .str x :: (R))) bl (.slice A l.length cap) := hS
      obtain ⟨g, rfl, hg⟩ := S0.block hnd
      have KS := Lib.hid S0
      clear hS S0 e0 e1 e2
      have KW := Lib.hid hW
      clear hW
      go_wp2_with fail
      refine (markText_z (Q) _ (by push_cast; first | rfl | omega) (by omega) (by omega) _).mono ?_
      rintro e w1 ⟨rfl, hb1⟩
      have KS0 := Lib.hid (D.Sep.below KS.out hb1)
      have KW0 := Lib.hid (KW.out.trans (Wr.of_below hb1))
      clear KS KW hb1
      have KS := KS0
      have KW := KW0
      clear KS0 KW0
      obtain ⟨⟨c0, z0⟩, f0⟩ := D.Sep.step_str (j) (by simp [hPl]) KS.out hnd
      have KS0 := Lib.hid (f0 (markT (Q)) (mk_str (markT_size _)))
      have KW0 := Lib.hid (KW.out.set (p := ⟨g, j, none⟩) hg (.string (markT (Q))))
      clear KS KW f0
      have KS := KS0
      have KW := KW0
      clear KS0 KW0
      go_wp2
      go_roundw
      case rel =>
        refine ⟨j + 1, Q + 1, by omega, by go_num, by first | rfl | go_num, ?_, ?_, KW.out⟩
        · rw [HN.out.1, HE.out.1]; have := HQ.out; omega
        · rw [HN.out.2, ← HQ.out, HE.out.2, HRP.out.1, HRP.out.2]
          have h := KS.out
          first | exact h | simpa using h
      case measure => simp [intOf]; omega
    · obtain rfl : j = l.length := by omega
      have KS := Lib.hid hS
      have HQ := Lib.hid hQ
      clear hS hQ
      go_wp2
      go_ret
      refine ⟨Q, ?_, rfl, ?_, hW⟩
      · have h := HQ.out; rw [List.take_length] at h; exact h
      · have h := KS.out; rw [List.take_length, List.drop_length] at h; simpa using h
end Go.Proofs.YtcpadaelgdmipaaGreatDoor
namespace Go.Proofs.YtcpadaelgdmipaaGreatDoor
open Go.RowKit

set_option maxHeartbeats 2000000 in
set_option maxRecDepth 20000 in
theorem markValueS_w (l : List Va) (hl : ∀ x ∈ l, MkD 40 (rows Va.ds 4 x.kids)) : MkD 40 (rows Va.ds 4 l) := by
  intro v bl k z w hz h1 hk hv hnd
  subst hz
  rw [rows_count] at hk ⊢
  have HC := Lib.hid hk
  rw [rows_mark]
  unfold rows at hv
  obtain ⟨A, cap, rfl, hn, hc, -⟩ := hv.sl_form
  unfold maxLen at hc
  have HV := Lib.hid hv
  have HL := Lib.hid hl
  clear hv hl
  go_enter Tryz.func40, Tryz.ntmps40
  go_wp2
  go_loopw [1, 5] (fun kk i wr => ∃ (j Q : Nat), j ≤ l.length ∧ i = .int .i64 j ∧ kk = .int .i64 (Q : Int) ∧ Q = k + D.counts ((l.take j).flatMap Va.ds) ∧ D.Sep wr (.sl l.length 4 (D.marks k ((l.take j).flatMap Va.ds) ++ (l.drop j).flatMap Va.ds)) bl (.slice A l.length cap) ∧ Wr bl w wr) (fun _ i _ => l.length - (intOf i).toNat)
  case atStart => exact ⟨0, k, Nat.zero_le _, rfl, rfl, by simp [D.counts], by simpa [D.marks] using HV.out, Wr.refl _ _⟩
  case round =>
    obtain ⟨j, Q, hj, rfl, rfl, hQ, hS, hW⟩ := hrel
    by_cases hlt : j < l.length
    · obtain ⟨x, hx⟩ : ∃ x, l[j]? = some x := ⟨l[j], List.getElem?_eq_getElem hlt⟩
      have hj0 : (0 : Int) ≤ (j : Int) := by omega
      have hj1 : (j : Int) < (l.length : Int) := by omega
      have hQ1 : 1 ≤ Q := by omega
      have hQb : Q + D.counts (Va.ds x) ≤ 1000000000000 := by have h2 := counts_take Va.ds l (j + 1); rw [counts_next hx] at h2; omega
      have HN := Lib.hid (And.intro (counts_next (f := Va.ds) hx) (marks_next (f := Va.ds) (k := k) hx))
      have HQ := Lib.hid hQ
      have HI := Lib.hid (HL.out x (List.mem_of_getElem? hx))
      rw [rows_split hx] at hS
      obtain ⟨R, hR⟩ : ∃ R, (l.drop (j + 1)).flatMap Va.ds = R := ⟨_, rfl⟩
      rw [hR] at hS
      obtain ⟨P, hP⟩ : ∃ P, D.marks k ((l.take j).flatMap Va.ds) = P := ⟨_, rfl⟩
      have hPl : P.length = j * 4 := by rw [← hP, D.marks_length, flat_length Va.len, List.length_take, Nat.min_eq_left (by omega)]
      rw [hP] at hS
      have HRP := Lib.hid (And.intro hR hP)
      clear hR hP hx hQ
      obtain ⟨x_k, x_m, x_t, x_kids⟩ := x
      replace HI := Lib.hid (show MkD 40 (rows Va.ds 4 x_kids) from HI.out)
      have e0 : Va.ds (Va.mk x_k x_m x_t x_kids) = [.int x_k, .int x_m, .str x_t, rows Va.ds 4 x_kids] := by simp [Va.ds_eq]
      have e1 : D.counts (Va.ds (Va.mk x_k x_m x_t x_kids)) = 1 + 1 + 1 + D.counts (x_kids.flatMap Va.ds) := by rw [e0]; simp [D.counts, D.count, rows] <;> omega
      rw [e1] at hQb
      obtain ⟨n3, hn3⟩ : ∃ n, D.counts (x_kids.flatMap Va.ds) = n := ⟨_, rfl⟩
      rw [hn3] at hQb
      have e2 : D.marks Q (Va.ds (Va.mk x_k x_m x_t x_kids)) = [D.int ((Q : Nat) : Int), D.int ((Q + 1 : Nat) : Int), D.str (markT (Q + 1 + 1)), D.sl x_kids.length 4 (D.marks (Q + 1 + 1 + 1) (x_kids.flatMap Va.ds))] := by rw [e0]; simp only [D.marks, D.mark, D.count, rows]
      have HE := Lib.hid (And.intro e1 e2)
      have HN3 := Lib.hid hn3
      rw [e0] at hS
      have S0 : D.Sep wr (.sl l.length 4 (P ++ .int x_k :: (.int x_m :: .str x_t :: .sl x_kids.length 4 (x_kids.flatMap Va.ds) :: R))) bl (.slice A l.length cap) := hS
      obtain ⟨g, rfl, hg⟩ := S0.block hnd
      have KS := Lib.hid S0
      clear hS S0 e0 e1 e2 hn3
      have KW := Lib.hid hW
      clear hW
      obtain ⟨⟨c0, z0⟩, f0⟩ := D.Sep.step_int (j * 4) (by simp [hPl]) KS.out hnd
      have KS0 := Lib.hid (f0 ((Q : Nat) : Int) (by omega))
      have KW0 := Lib.hid (KW.out.set (p := ⟨g, j * 4, none⟩) hg (.int .i64 ((Q : Nat) : Int)))
      clear KS KW f0
      have KS := KS0
      have KW := KW0
      clear KS0 KW0
      obtain ⟨⟨c1, z1⟩, f1⟩ := D.Sep.step_int (j * 4 + 1) (by simp [hPl]) KS.out hnd
      rw [cell_set_ne _ _ _ _ _ (by omega)] at c1
      rw [frozen_set] at z1
      have KS1 := Lib.hid (f1 ((Q + 1 : Nat) : Int) (by omega))
      have KW1 := Lib.hid (KW.out.set (p := ⟨g, j * 4 + 1, none⟩) hg (.int .i64 ((Q + 1 : Nat) : Int)))
      clear KS KW f1
      have KS := KS1
      have KW := KW1
      clear KS1 KW1
      go_wp2_with fail
      refine (markText_z (Q + 1 + 1) _ (by push_cast; first | rfl | omega) (by omega) (by omega) _).mono ?_
      rintro e w1 ⟨rfl, hb1⟩
      have KS2 := Lib.hid (D.Sep.below KS.out hb1)
      have KW2 := Lib.hid (KW.out.trans (Wr.of_below hb1))
      clear KS KW hb1
      have KS := KS2
      have KW := KW2
      clear KS2 KW2
      clear c0 z0 c1 z1
      obtain ⟨⟨c2, z2⟩, f2⟩ := D.Sep.step_str (j * 4 + 2) (by simp [hPl]) KS.out hnd
      have KS2 := Lib.hid (f2 (markT (Q + 1 + 1)) (mk_str (markT_size _)))
      have KW2 := Lib.hid (KW.out.set (p := ⟨g, j * 4 + 2, none⟩) hg (.string (markT (Q + 1 + 1))))
      clear KS KW f2
      have KS := KS2
      have KW := KW2
      clear KS2 KW2
      obtain ⟨l3, A3, c_3, c3, s3, nd3, sub3, f3⟩ := D.Sep.step_sl (j * 4 + 3) (by simp [hPl]) KS.out hnd
      rw [cell_set_ne _ _ _ _ _ (by omega)] at c3
      have K3 := Lib.hid (And.intro s3 (And.intro nd3 (And.intro sub3 f3)))
      clear s3 nd3 sub3 f3
      go_wp2_with fail
      refine ((HI.out) _ l3 (Q + 1 + 1 + 1) _ _ (by push_cast; first | rfl | omega) (by omega) (by rw [rows_count, HN3.out]; omega) K3.out.1 K3.out.2.1).mono ?_
      rintro e w2 ⟨m3, hm3, rfl, s3, wr3⟩
      have HM3 := Lib.hid (show m3 = Q + 1 + 1 + 1 + n3 from by rw [hm3, rows_count, HN3.out])
      have KS3 := Lib.hid (K3.out.2.2.2 _ _ wr3 s3)
      have KW3 := Lib.hid (KW.out.trans (wr3.mono K3.out.2.2.1))
      have hm3' : m3 = Q + 1 + 1 + 1 + n3 := HM3.out
      clear KS KW hm3 s3 wr3 K3
      have KS := KS3
      have KW := KW3
      clear KS3 KW3
      clear hm3'
      have hmb3 : m3 ≤ 1000000000000 := by have := HM3.out; omega
      clear c2 z2
      go_wp2
      go_roundw
      case rel =>
        refine ⟨j + 1, m3, by omega, by go_num, by first | rfl | go_num, ?_, ?_, KW.out⟩
        · rw [HN.out.1, HE.out.1, HN3.out]; have := HQ.out; have := HM3.out; omega
        · rw [HN.out.2, ← HQ.out, HE.out.2, HRP.out.1, HRP.out.2]
          have h := KS.out
          first | exact h | simpa using h
      case measure => simp [intOf]; omega
    · obtain rfl : j = l.length := by omega
      have KS := Lib.hid hS
      have HQ := Lib.hid hQ
      clear hS hQ
      go_wp2
      go_ret
      refine ⟨Q, ?_, rfl, ?_, hW⟩
      · have h := HQ.out; rw [List.take_length] at h; exact h
      · have h := KS.out; rw [List.take_length, List.drop_length] at h; simpa using h
theorem markValueS_all (l : List Va) : MkD 40 (rows Va.ds 4 l) := by
  have key : ∀ x : Va, MkD 40 (rows Va.ds 4 x.kids) := fun x => by
    refine Va.ind (P := fun x => MkD 40 (rows Va.ds 4 x.kids)) (fun k m t kids ih => ?_) x
    exact markValueS_w kids ih
  exact markValueS_w l (fun x _ => key x)
set_option maxHeartbeats 2000000 in
set_option maxRecDepth 20000 in
theorem heldValueS_w (l : List Va) (hl : ∀ x ∈ l, HdD 43 (rows Va.ds 4 x.kids)) : HdD 43 (rows Va.ds 4 l) := by
  intro v k z w hz h1 hk hv
  subst hz
  rw [rows_count] at hk ⊢
  have HC := Lib.hid hk
  rw [rows_mark] at hv
  obtain ⟨A, cap, rfl, hn, hc⟩ := hv.sl_form
  unfold maxLen at hc
  have HV := Lib.hid hv
  have HL := Lib.hid hl
  clear hv hl
  go_enter Tryz.func43, Tryz.ntmps43
  go_wp2
  go_loopw [1, 5] (fun kk i wr => ∃ (j Q : Nat), j ≤ l.length ∧ i = .int .i64 j ∧ kk = .int .i64 (Q : Int) ∧ Q = k + D.counts ((l.take j).flatMap Va.ds) ∧ Below w.heap.size w wr) (fun _ i _ => l.length - (intOf i).toNat)
  case atStart => exact ⟨0, k, Nat.zero_le _, rfl, rfl, by simp [D.counts], Below.refl _ _⟩
  case round =>
    obtain ⟨j, Q, hj, rfl, rfl, hQ, hb⟩ := hrel
    by_cases hlt : j < l.length
    · obtain ⟨x, hx⟩ : ∃ x, l[j]? = some x := ⟨l[j], List.getElem?_eq_getElem hlt⟩
      have hj0 : (0 : Int) ≤ (j : Int) := by omega
      have hj1 : (j : Int) < (l.length : Int) := by omega
      have hQ1 : 1 ≤ Q := by omega
      have hQb : Q + D.counts (Va.ds x) ≤ 1000000000000 := by have h2 := counts_take Va.ds l (j + 1); rw [counts_next hx] at h2; omega
      have HN := Lib.hid (And.intro (counts_next (f := Va.ds) hx) (marks_next (f := Va.ds) (k := k) hx))
      have HQ := Lib.hid hQ
      have HI := Lib.hid (HL.out x (List.mem_of_getElem? hx))
      have hv := HV.out.below hb
      rw [flat_take_drop Va.ds l j, rows_split hx, D.marks_append, ← hQ, D.marks_append] at hv
      obtain ⟨R, hR⟩ : ∃ R, D.marks (Q + D.counts (Va.ds x)) ((l.drop (j + 1)).flatMap Va.ds) = R := ⟨_, rfl⟩
      rw [hR] at hv
      obtain ⟨P, hP⟩ : ∃ P, D.marks k ((l.take j).flatMap Va.ds) = P := ⟨_, rfl⟩
      have hPl : P.length = j * 4 := by rw [← hP, D.marks_length, flat_length Va.len, List.length_take, Nat.min_eq_left (by omega)]
      rw [hP] at hv
      have HRP := Lib.hid (And.intro hR hP)
      clear hR hP hx hQ
      obtain ⟨x_k, x_m, x_t, x_kids⟩ := x
      replace HI := Lib.hid (show HdD 43 (rows Va.ds 4 x_kids) from HI.out)
      have e0 : Va.ds (Va.mk x_k x_m x_t x_kids) = [.int x_k, .int x_m, .str x_t, rows Va.ds 4 x_kids] := by simp [Va.ds_eq]
      have e1 : D.counts (Va.ds (Va.mk x_k x_m x_t x_kids)) = 1 + 1 + 1 + D.counts (x_kids.flatMap Va.ds) := by rw [e0]; simp [D.counts, D.count, rows] <;> omega
      rw [e1] at hQb
      obtain ⟨n3, hn3⟩ : ∃ n, D.counts (x_kids.flatMap Va.ds) = n := ⟨_, rfl⟩
      rw [hn3] at hQb
      have e2 : D.marks Q (Va.ds (Va.mk x_k x_m x_t x_kids)) = [D.int ((Q : Nat) : Int), D.int ((Q + 1 : Nat) : Int), D.str (markT (Q + 1 + 1)), D.sl x_kids.length 4 (D.marks (Q + 1 + 1 + 1) (x_kids.flatMap Va.ds))] := by rw [e0]; simp only [D.marks, D.mark, D.count, rows]
      have HE := Lib.hid (And.intro e1 e2)
      have HN3 := Lib.hid hn3
      rw [e2] at hv
      have KS := Lib.hid hv
      clear hv e0 e1 e2 hn3
      obtain ⟨g0, off0, v0, hA0, hg0, c0, hat0⟩ := D.At.field (P := P) (d := D.int ((Q : Nat) : Int)) (R := D.int ((Q + 1 : Nat) : Int) :: D.str (markT (Q + 1 + 1)) :: D.sl x_kids.length 4 (D.marks (Q + 1 + 1 + 1) (x_kids.flatMap Va.ds)) :: R) (by have h := KS.out; first | exact h | simpa using h)
      subst hA0
      rw [hPl] at c0
      obtain rfl := hat0.int_form
      clear hat0
      obtain ⟨g1, off1, v1, hA1, hg1, c1, hat1⟩ := D.At.field (P := (P ++ [D.int ((Q : Nat) : Int)])) (d := D.int ((Q + 1 : Nat) : Int)) (R := D.str (markT (Q + 1 + 1)) :: D.sl x_kids.length 4 (D.marks (Q + 1 + 1 + 1) (x_kids.flatMap Va.ds)) :: R) (by have h := KS.out; first | exact h | simpa using h)
      obtain ⟨rfl, rfl⟩ : g0 = g1 ∧ off0 = off1 := by simpa using hA1
      clear hA1
      rw [show (P ++ [D.int ((Q : Nat) : Int)]).length = j * 4 + 1 by simp [hPl]] at c1
      obtain rfl := hat1.int_form
      clear hat1
      rw [show off0 + (j * 4 + 1) = off0 + j * 4 + 1 by omega] at c1
      obtain ⟨g2, off2, v2, hA2, hg2, c2, hat2⟩ := D.At.field (P := (P ++ [D.int ((Q : Nat) : Int), D.int ((Q + 1 : Nat) : Int)])) (d := D.str (markT (Q + 1 + 1))) (R := D.sl x_kids.length 4 (D.marks (Q + 1 + 1 + 1) (x_kids.flatMap Va.ds)) :: R) (by have h := KS.out; first | exact h | simpa using h)
      obtain ⟨rfl, rfl⟩ : g0 = g2 ∧ off0 = off2 := by simpa using hA2
      clear hA2
      rw [show (P ++ [D.int ((Q : Nat) : Int), D.int ((Q + 1 : Nat) : Int)]).length = j * 4 + 2 by simp [hPl]] at c2
      obtain rfl := hat2.str_form
      clear hat2
      rw [show off0 + (j * 4 + 2) = off0 + j * 4 + 2 by omega] at c2
      obtain ⟨g3, off3, v3, hA3, hg3, c3, hat3⟩ := D.At.field (P := (P ++ [D.int ((Q : Nat) : Int), D.int ((Q + 1 : Nat) : Int), D.str (markT (Q + 1 + 1))])) (d := D.sl x_kids.length 4 (D.marks (Q + 1 + 1 + 1) (x_kids.flatMap Va.ds))) (R := R) (by have h := KS.out; first | exact h | simpa using h)
      obtain ⟨rfl, rfl⟩ : g0 = g3 ∧ off0 = off3 := by simpa using hA3
      clear hA3
      rw [show (P ++ [D.int ((Q : Nat) : Int), D.int ((Q + 1 : Nat) : Int), D.str (markT (Q + 1 + 1))]).length = j * 4 + 3 by simp [hPl]] at c3
      obtain ⟨A3, c_3, rfl, -, -⟩ := hat3.sl_form
      have K3 := Lib.hid hat3
      clear hat3
      rw [show off0 + (j * 4 + 3) = off0 + j * 4 + 3 by omega] at c3
      have B0 := hb
      clear hb KS
      have hgl : g0 < wr.heap.size := hg0
      have y2 : ((markT (Q + 1 + 1)).toList != (markT (Q + 1 + 1)).toList) = false := by simp
      go_wp2_with fail
      refine wp_region_quiet_below (by kernel_rfl) (by kernel_rfl) ?_
      have r2 := cell_regrown c2
      repeat (first | go_big_quiet_step (exact Calls.regrown_of (markText_z (Q + 1 + 1) _ (by push_cast; first | rfl | omega) (by omega) (by omega) _)) | quiet_step (exact Calls.regrown_of (markText_z (Q + 1 + 1) _ (by push_cast; first | rfl | omega) (by omega) (by omega) _)))
      refine wpQuiet_nil ?_
      intro w1 hw1
      have hb1 := below_of_regrown hw1
      have B1 := B0.trans (hb1.mono B0.size)
      replace c3 := (hb1.cell (p := ⟨g0, off0 + j * 4 + 3, none⟩) hgl).trans c3
      replace K3 := Lib.hid (K3.out.below hb1)
      replace hgl := Nat.lt_of_lt_of_le hgl hb1.size
      clear hw1 hb1 B0 c2 r2
      go_wp2_with fail
      refine ((HI.out) _ (Q + 1 + 1 + 1) _ _ (by push_cast; first | rfl | omega) (by omega) (by rw [rows_count, HN3.out]; omega) K3.out).mono ?_
      rintro e w2 ⟨m3, hm3, rfl, hb2⟩
      have HM3 := Lib.hid (show m3 = Q + 1 + 1 + 1 + n3 from by rw [hm3, rows_count, HN3.out])
      have hmb3 : ¬ ((m3 : Int) < 0) := by omega
      have B2 := B1.trans (hb2.mono B1.size)
      replace hgl := Nat.lt_of_lt_of_le hgl hb2.size
      clear hm3 hb2 B1 c3 K3
      go_wp2
      go_roundw
      case rel => exact ⟨j + 1, m3, by omega, by go_num, by first | rfl | go_num, by rw [HN.out.1, HE.out.1, HN3.out]; have := HQ.out; have := HM3.out; omega, B2⟩
      case measure => simp [intOf]; omega
    · obtain rfl : j = l.length := by omega
      have HQ := Lib.hid hQ
      clear hQ
      go_wp2
      go_ret
      exact ⟨Q, by have h := HQ.out; rw [List.take_length] at h; exact h, rfl, hb⟩
theorem heldValueS_all (l : List Va) : HdD 43 (rows Va.ds 4 l) := by
  have key : ∀ x : Va, HdD 43 (rows Va.ds 4 x.kids) := fun x => by
    refine Va.ind (P := fun x => HdD 43 (rows Va.ds 4 x.kids)) (fun k m t kids ih => ?_) x
    exact heldValueS_w kids ih
  exact heldValueS_w l (fun x _ => key x)
end Go.Proofs.YtcpadaelgdmipaaGreatDoor
namespace Go.Proofs.YtcpadaelgdmipaaGreatDoor
open Go.RowKit

theorem D.Seps.field {w : World} {P R : List D} {d : D} {l : List Nat} {xs : List Value} (h : D.Seps w (P ++ d :: R) l xs) (hnd : l.Nodup) :
    ∃ l2 x, xs[P.length]? = some x ∧ D.Sep w d l2 x ∧ l2.Nodup ∧ (∀ b ∈ l2, b ∈ l) ∧ ∀ d' w2, Wr l2 w w2 → D.Sep w2 d' l2 x → D.Seps w2 (P ++ d' :: R) l xs := by
  obtain ⟨l1, l23, ys, zs, rfl, rfl, s1, s23⟩ := h.split
  obtain ⟨l2, l3, x, vs, rfl, rfl, s2, s3⟩ := s23.head
  have hnd2 := List.nodup_append.1 hnd
  have hnd3 := List.nodup_append.1 hnd2.2.1
  refine ⟨l2, x, by rw [← s1.length]; simp, s2, hnd3.1, fun b hb => by simp [hb], fun d' w2 hw h' => ?_⟩
  have d1 : ∀ b ∈ l1, b ∉ l2 := fun b hb hm => hnd2.2.2 b hb b (by simp [hm]) rfl
  have d3 : ∀ b ∈ l3, b ∉ l2 := fun b hb hm => hnd3.2.2 b hm b hb rfl
  exact (s1.wr hw d1).append (D.Seps.cons h' (s3.wr hw d3))
theorem D.Ats.field {w : World} {S : Nat → Prop} {P R : List D} {d : D} {xs : List Value} (h : D.Ats w S (P ++ d :: R) xs) : ∃ x, xs[P.length]? = some x ∧ D.At w S d x := by
  obtain ⟨ys, zs, rfl, s1, s2⟩ := h.split
  simp only [D.Ats] at s2
  obtain ⟨x, vs, rfl, s3, -⟩ := s2
  exact ⟨x, by rw [← s1.length]; simp, s3⟩

end Go.Proofs.YtcpadaelgdmipaaGreatDoor
namespace Go.Proofs.YtcpadaelgdmipaaGreatDoor
open Go.RowKit

set_option maxHeartbeats 1000000 in
set_option maxRecDepth 20000 in
theorem markValue_w (x : Va) : MkT 15 x.ds := by
  obtain ⟨k, m, t, kids⟩ := x
  intro cs bl k0 z w hz h1 hk hv hnd
  subst hz
  obtain ⟨n3, hn3⟩ : ∃ n, D.counts (kids.flatMap Va.ds) = n := ⟨_, rfl⟩
  have e1 : D.topsC (Va.mk k m t kids).ds = n3 := by rw [Va.ds_eq]; simp [D.topsC, D.topC, rows, hn3]
  have e2 : D.topsM k0 (Va.mk k m t kids).ds = [D.int k, D.int m, D.str t, D.sl kids.length 4 (D.marks (k0) (kids.flatMap Va.ds))] := by rw [Va.ds_eq]; simp [D.topsM, D.topM, D.topC, rows]
  rw [e1] at hk ⊢
  rw [e2]
  rw [Va.ds_eq] at hv
  obtain ⟨A, c, rfl, -, -, -, -⟩ := Va.open_ (D.Seps.at_ (S := anyB) _ _ _ (fun _ _ => trivial) (by rw [← Va.ds_eq] at hv; exact hv))
  have KS := Lib.hid hv
  have HL0 := Lib.hid hv
  clear hv
  have HN3 := Lib.hid hn3
  clear e1 e2 hn3
  have bA := Box.new w 34 [.int .i64 k, .int .i64 m, .string t, .slice A kids.length c]
  have BW : Below w.heap.size w (w.alloc (.cells #[.int .i64 k, .int .i64 m, .string t, .slice A kids.length c] 34)) := (Below.refl _ _).alloc (Nat.le_refl _) _
  have HB := Lib.hid (And.intro BW bA)
  clear BW bA
  go_enter Tryz.func15, Tryz.ntmps15
  have KW := Lib.hid (Wr.of_below (l := bl) HB.out.1)
  have KS1 := Lib.hid (D.Seps.below KS.out HB.out.1)
  clear KS
  have KS := KS1
  clear KS1
  have KB := Lib.hid HB.out.2
  obtain ⟨l3, x3, hx3, s3, nd3, sub3, f3⟩ := D.Seps.field (P := [D.int k, D.int m, D.str t]) (d := rows Va.ds 4 kids) (R := []) KS.out hnd
  obtain rfl : x3 = .slice A kids.length c := by simpa using hx3.symm
  have K3 := Lib.hid (And.intro s3 (And.intro nd3 (And.intro sub3 f3)))
  clear s3 nd3 sub3 f3 hx3
  go_wp2_with fail
  refine ((markValueS_all kids) _ l3 (k0) _ _ (by push_cast; first | rfl | omega) (by omega) (by rw [rows_count, HN3.out]; omega) K3.out.1 K3.out.2.1).mono ?_
  rintro e w1 ⟨m3, hm3, rfl, s3, wr3⟩
  have HM3 := Lib.hid (show m3 = k0 + n3 from by rw [hm3, rows_count, HN3.out])
  have hmb3 : m3 ≤ 1000000000000 := by have := HM3.out; omega
  have KS1 := Lib.hid (K3.out.2.2.2 _ _ wr3 s3)
  have KW1 := Lib.hid (KW.out.trans (wr3.mono K3.out.2.2.1))
  have KB1 := Lib.hid (show Box w1 w.heap.size 34 [.int .i64 k, .int .i64 m, .string t, .slice A kids.length c] from (wr3.block _ KB.out.lt (fun hmm => Nat.lt_irrefl _ (D.Seps.lt _ _ _ HL0.out _ (K3.out.2.2.1 _ hmm)))).trans KB.out)
  clear KS KW KB hm3 s3 wr3 K3
  have KS := KS1
  have KW := KW1
  have KB := KB1
  clear KS1 KW1 KB1
  go_wp2
  go_ret
  exact ⟨m3, by have := HM3.out; omega, rfl, KS.out, KW.out⟩
set_option maxHeartbeats 1000000 in
set_option maxRecDepth 20000 in
theorem heldValue_w (x : Va) : HdT 18 x.ds := by
  obtain ⟨k, m, t, kids⟩ := x
  intro cs k0 z w hz h1 hk hv
  subst hz
  obtain ⟨n3, hn3⟩ : ∃ n, D.counts (kids.flatMap Va.ds) = n := ⟨_, rfl⟩
  have e1 : D.topsC (Va.mk k m t kids).ds = n3 := by rw [Va.ds_eq]; simp [D.topsC, D.topC, rows, hn3]
  have e2 : D.topsM k0 (Va.mk k m t kids).ds = [D.int k, D.int m, D.str t, D.sl kids.length 4 (D.marks (k0) (kids.flatMap Va.ds))] := by rw [Va.ds_eq]; simp [D.topsM, D.topM, D.topC, rows]
  rw [e1] at hk ⊢
  rw [e2] at hv
  have hl := hv.length
  obtain ⟨v0, hx0, at0⟩ := D.Ats.field (P := []) (d := D.int k) (R := [D.int m, D.str t, D.sl kids.length 4 (D.marks (k0) (kids.flatMap Va.ds))]) hv
  obtain rfl := at0.int_form
  obtain ⟨v1, hx1, at1⟩ := D.Ats.field (P := [D.int k]) (d := D.int m) (R := [D.str t, D.sl kids.length 4 (D.marks (k0) (kids.flatMap Va.ds))]) hv
  obtain rfl := at1.int_form
  obtain ⟨v2, hx2, at2⟩ := D.Ats.field (P := [D.int k, D.int m]) (d := D.str t) (R := [D.sl kids.length 4 (D.marks (k0) (kids.flatMap Va.ds))]) hv
  obtain rfl := at2.str_form
  obtain ⟨v3, hx3, at3⟩ := D.Ats.field (P := [D.int k, D.int m, D.str t]) (d := D.sl kids.length 4 (D.marks (k0) (kids.flatMap Va.ds))) (R := []) hv
  obtain ⟨A3, c3, rfl, -, -⟩ := at3.sl_form
  obtain rfl : cs = [.int .i64 k, .int .i64 m, .string t, .slice A3 kids.length c3] := by
    simp only [List.length_cons, List.length_nil] at hl
    match cs, hl with
    | [y0, y1, y2, y3], _ => simp at hx0 hx1 hx2 hx3; simp [hx0, hx1, hx2, hx3]
  have S3 := Lib.hid at3
  clear hv hl hx0 hx1 hx2 hx3 at0 at1 at2 at3
  have HN3 := Lib.hid hn3
  clear e1 e2 hn3
  have bA := Box.new w 34 [.int .i64 k, .int .i64 m, .string t, .slice A3 kids.length c3]
  have BW : Below w.heap.size w (w.alloc (.cells #[.int .i64 k, .int .i64 m, .string t, .slice A3 kids.length c3] 34)) := (Below.refl _ _).alloc (Nat.le_refl _) _
  have HB := Lib.hid (And.intro BW bA)
  clear BW bA
  go_enter Tryz.func18, Tryz.ntmps18
  replace S3 := Lib.hid (D.At.below S3.out HB.out.1)
  have KB := HB
  go_wp2_with fail
  refine ((heldValueS_all kids) _ (k0) _ _ (by push_cast; first | rfl | omega) (by omega) (by rw [rows_count, HN3.out]; omega) S3.out).mono ?_
  rintro e w1 ⟨m3, hm3, rfl, hb1⟩
  have HM3 := Lib.hid (show m3 = k0 + n3 from by rw [hm3, rows_count, HN3.out])
  have hmb3 : ¬ ((m3 : Int) < 0) := by omega
  have KB1 := Lib.hid (And.intro (KB.out.1.trans (hb1.mono KB.out.1.size)) (KB.out.2.call hb1))
  clear KB hm3 hb1
  have KB := KB1
  clear KB1
  go_wp2
  go_ret
  exact ⟨m3, by have := HM3.out; omega, rfl, KB.out.1⟩
end Go.Proofs.YtcpadaelgdmipaaGreatDoor
namespace Go.Proofs.YtcpadaelgdmipaaGreatDoor
open Go.RowKit

set_option maxHeartbeats 2000000 in
set_option maxRecDepth 20000 in
theorem markTypeS_w (l : List Ty) (hl : ∀ x ∈ l, MkD 42 (rows Ty.ds 4 x.kids)) : MkD 42 (rows Ty.ds 4 l) := by
  intro v bl k z w hz h1 hk hv hnd
  subst hz
  rw [rows_count] at hk ⊢
  have HC := Lib.hid hk
  rw [rows_mark]
  unfold rows at hv
  obtain ⟨A, cap, rfl, hn, hc, -⟩ := hv.sl_form
  unfold maxLen at hc
  have HV := Lib.hid hv
  have HL := Lib.hid hl
  clear hv hl
  go_enter Tryz.func42, Tryz.ntmps42
  go_wp2
  go_loopw [1, 5] (fun kk i wr => ∃ (j Q : Nat), j ≤ l.length ∧ i = .int .i64 j ∧ kk = .int .i64 (Q : Int) ∧ Q = k + D.counts ((l.take j).flatMap Ty.ds) ∧ D.Sep wr (.sl l.length 4 (D.marks k ((l.take j).flatMap Ty.ds) ++ (l.drop j).flatMap Ty.ds)) bl (.slice A l.length cap) ∧ Wr bl w wr) (fun _ i _ => l.length - (intOf i).toNat)
  case atStart => exact ⟨0, k, Nat.zero_le _, rfl, rfl, by simp [D.counts], by simpa [D.marks] using HV.out, Wr.refl _ _⟩
  case round =>
    obtain ⟨j, Q, hj, rfl, rfl, hQ, hS, hW⟩ := hrel
    by_cases hlt : j < l.length
    · obtain ⟨x, hx⟩ : ∃ x, l[j]? = some x := ⟨l[j], List.getElem?_eq_getElem hlt⟩
      have hj0 : (0 : Int) ≤ (j : Int) := by omega
      have hj1 : (j : Int) < (l.length : Int) := by omega
      have hQ1 : 1 ≤ Q := by omega
      have hQb : Q + D.counts (Ty.ds x) ≤ 1000000000000 := by have h2 := counts_take Ty.ds l (j + 1); rw [counts_next hx] at h2; omega
      have HN := Lib.hid (And.intro (counts_next (f := Ty.ds) hx) (marks_next (f := Ty.ds) (k := k) hx))
      have HQ := Lib.hid hQ
      have HI := Lib.hid (HL.out x (List.mem_of_getElem? hx))
      rw [rows_split hx] at hS
      obtain ⟨R, hR⟩ : ∃ R, (l.drop (j + 1)).flatMap Ty.ds = R := ⟨_, rfl⟩
      rw [hR] at hS
      obtain ⟨P, hP⟩ : ∃ P, D.marks k ((l.take j).flatMap Ty.ds) = P := ⟨_, rfl⟩
      have hPl : P.length = j * 4 := by rw [← hP, D.marks_length, flat_length Ty.len, List.length_take, Nat.min_eq_left (by omega)]
      rw [hP] at hS
      have HRP := Lib.hid (And.intro hR hP)
      clear hR hP hx hQ
      obtain ⟨x_k, x_n, x_l, x_kids⟩ := x
      replace HI := Lib.hid (show MkD 42 (rows Ty.ds 4 x_kids) from HI.out)
      have e0 : Ty.ds (Ty.mk x_k x_n x_l x_kids) = [.int x_k, .str x_n, strs x_l, rows Ty.ds 4 x_kids] := by simp [Ty.ds_eq]
      have e1 : D.counts (Ty.ds (Ty.mk x_k x_n x_l x_kids)) = 1 + 1 + D.counts (x_l.flatMap strD) + D.counts (x_kids.flatMap Ty.ds) := by rw [e0]; simp [D.counts, D.count, strs, rows] <;> omega
      rw [e1] at hQb
      obtain ⟨n2, hn2⟩ : ∃ n, D.counts (x_l.flatMap strD) = n := ⟨_, rfl⟩
      obtain ⟨n3, hn3⟩ : ∃ n, D.counts (x_kids.flatMap Ty.ds) = n := ⟨_, rfl⟩
      rw [hn2, hn3] at hQb
      have e2 : D.marks Q (Ty.ds (Ty.mk x_k x_n x_l x_kids)) = [D.int ((Q : Nat) : Int), D.str (markT (Q + 1)), D.sl x_l.length 1 (D.marks (Q + 1 + 1) (x_l.flatMap strD)), D.sl x_kids.length 4 (D.marks (Q + 1 + 1 + n2) (x_kids.flatMap Ty.ds))] := by rw [e0]; simp only [D.marks, D.mark, D.count, strs, rows, hn2]
      have HE := Lib.hid (And.intro e1 e2)
      have HN2 := Lib.hid hn2
      have HN3 := Lib.hid hn3
      rw [e0] at hS
      have S0 : D.Sep wr (.sl l.length 4 (P ++ .int x_k :: (.str x_n :: .sl x_l.length 1 (x_l.flatMap strD) :: .sl x_kids.length 4 (x_kids.flatMap Ty.ds) :: R))) bl (.slice A l.length cap) := hS
      obtain ⟨g, rfl, hg⟩ := S0.block hnd
      have KS := Lib.hid S0
      clear hS S0 e0 e1 e2 hn2 hn3
      have KW := Lib.hid hW
      clear hW
      obtain ⟨⟨c0, z0⟩, f0⟩ := D.Sep.step_int (j * 4) (by simp [hPl]) KS.out hnd
      have KS0 := Lib.hid (f0 ((Q : Nat) : Int) (by omega))
      have KW0 := Lib.hid (KW.out.set (p := ⟨g, j * 4, none⟩) hg (.int .i64 ((Q : Nat) : Int)))
      clear KS KW f0
      have KS := KS0
      have KW := KW0
      clear KS0 KW0
      go_wp2_with fail
      refine (markText_z (Q + 1) _ (by push_cast; first | rfl | omega) (by omega) (by omega) _).mono ?_
      rintro e w1 ⟨rfl, hb1⟩
      have KS1 := Lib.hid (D.Sep.below KS.out hb1)
      have KW1 := Lib.hid (KW.out.trans (Wr.of_below hb1))
      clear KS KW hb1
      have KS := KS1
      have KW := KW1
      clear KS1 KW1
      clear c0 z0
      obtain ⟨⟨c1, z1⟩, f1⟩ := D.Sep.step_str (j * 4 + 1) (by simp [hPl]) KS.out hnd
      have KS1 := Lib.hid (f1 (markT (Q + 1)) (mk_str (markT_size _)))
      have KW1 := Lib.hid (KW.out.set (p := ⟨g, j * 4 + 1, none⟩) hg (.string (markT (Q + 1))))
      clear KS KW f1
      have KS := KS1
      have KW := KW1
      clear KS1 KW1
      obtain ⟨l2, A2, c_2, c2, s2, nd2, sub2, f2⟩ := D.Sep.step_sl (j * 4 + 2) (by simp [hPl]) KS.out hnd
      rw [cell_set_ne _ _ _ _ _ (by omega)] at c2
      have K2 := Lib.hid (And.intro s2 (And.intro nd2 (And.intro sub2 f2)))
      clear s2 nd2 sub2 f2
      go_wp2_with fail
      refine ((markStringS_w x_l) _ l2 (Q + 1 + 1) _ _ (by push_cast; first | rfl | omega) (by omega) (by rw [rows_count, HN2.out]; omega) K2.out.1 K2.out.2.1).mono ?_
      rintro e w2 ⟨m2, hm2, rfl, s2, wr2⟩
      have HM2 := Lib.hid (show m2 = Q + 1 + 1 + n2 from by rw [hm2, rows_count, HN2.out])
      have KS2 := Lib.hid (K2.out.2.2.2 _ _ wr2 s2)
      have KW2 := Lib.hid (KW.out.trans (wr2.mono K2.out.2.2.1))
      have hm2' : m2 = Q + 1 + 1 + n2 := HM2.out
      clear KS KW hm2 s2 wr2 K2
      have KS := KS2
      have KW := KW2
      clear KS2 KW2
      clear hm2'
      have hmb2 : m2 ≤ 1000000000000 := by have := HM2.out; omega
      clear c1 z1
      obtain ⟨l3, A3, c_3, c3, s3, nd3, sub3, f3⟩ := D.Sep.step_sl (j * 4 + 3) (by simp [hPl]) KS.out hnd
      have K3 := Lib.hid (And.intro s3 (And.intro nd3 (And.intro sub3 f3)))
      clear s3 nd3 sub3 f3
      go_wp2_with fail
      refine ((HI.out) _ l3 (Q + 1 + 1 + n2) _ _ (by have := HM2.out; push_cast; first | rfl | omega) (by omega) (by rw [rows_count, HN3.out]; omega) K3.out.1 K3.out.2.1).mono ?_
      rintro e w3 ⟨m3, hm3, rfl, s3, wr3⟩
      have HM3 := Lib.hid (show m3 = Q + 1 + 1 + n2 + n3 from by rw [hm3, rows_count, HN3.out])
      have KS3 := Lib.hid (K3.out.2.2.2 _ _ wr3 s3)
      have KW3 := Lib.hid (KW.out.trans (wr3.mono K3.out.2.2.1))
      have hm3' : m3 = Q + 1 + 1 + n2 + n3 := HM3.out
      clear KS KW hm3 s3 wr3 K3
      have KS := KS3
      have KW := KW3
      clear KS3 KW3
      clear hm3'
      have hmb3 : m3 ≤ 1000000000000 := by have := HM3.out; have := HM2.out; omega
      go_wp2
      go_roundw
      case rel =>
        refine ⟨j + 1, m3, by omega, by go_num, by first | rfl | go_num, ?_, ?_, KW.out⟩
        · rw [HN.out.1, HE.out.1, HN2.out, HN3.out]; have := HQ.out; have := HM2.out; have := HM3.out; omega
        · rw [HN.out.2, ← HQ.out, HE.out.2, HRP.out.1, HRP.out.2]
          have h := KS.out
          first | exact h | simpa using h
      case measure => simp [intOf]; omega
    · obtain rfl : j = l.length := by omega
      have KS := Lib.hid hS
      have HQ := Lib.hid hQ
      clear hS hQ
      go_wp2
      go_ret
      refine ⟨Q, ?_, rfl, ?_, hW⟩
      · have h := HQ.out; rw [List.take_length] at h; exact h
      · have h := KS.out; rw [List.take_length, List.drop_length] at h; simpa using h
theorem markTypeS_all (l : List Ty) : MkD 42 (rows Ty.ds 4 l) := by
  have key : ∀ x : Ty, MkD 42 (rows Ty.ds 4 x.kids) := fun x => by
    refine Ty.ind (P := fun x => MkD 42 (rows Ty.ds 4 x.kids)) (fun k n l kids ih => ?_) x
    exact markTypeS_w kids ih
  exact markTypeS_w l (fun x _ => key x)
end Go.Proofs.YtcpadaelgdmipaaGreatDoor
namespace Go.Proofs.YtcpadaelgdmipaaGreatDoor
open Go.RowKit

set_option maxHeartbeats 1000000 in
set_option maxRecDepth 20000 in
theorem markType_w (x : Ty) : MkT 16 x.ds := by
  obtain ⟨k, n, l, kids⟩ := x
  intro cs bl k0 z w hz h1 hk hv hnd
  subst hz
  obtain ⟨n2, hn2⟩ : ∃ n, D.counts (l.flatMap strD) = n := ⟨_, rfl⟩
  obtain ⟨n3, hn3⟩ : ∃ n, D.counts (kids.flatMap Ty.ds) = n := ⟨_, rfl⟩
  have e1 : D.topsC (Ty.mk k n l kids).ds = n2 + n3 := by rw [Ty.ds_eq]; simp [D.topsC, D.topC, strs, rows, hn2, hn3]
  have e2 : D.topsM k0 (Ty.mk k n l kids).ds = [D.int k, D.str n, D.sl l.length 1 (D.marks (k0) (l.flatMap strD)), D.sl kids.length 4 (D.marks (k0 + n2) (kids.flatMap Ty.ds))] := by rw [Ty.ds_eq]; simp [D.topsM, D.topM, D.topC, strs, rows, hn2]
  rw [e1] at hk ⊢
  rw [e2]
  rw [Ty.ds_eq] at hv
  obtain ⟨A, c, A', c', rfl, -, -, -, -⟩ := Ty.open_ (D.Seps.at_ (S := anyB) _ _ _ (fun _ _ => trivial) (by rw [← Ty.ds_eq] at hv; exact hv))
  have KS := Lib.hid hv
  have HL0 := Lib.hid hv
  clear hv
  have HN2 := Lib.hid hn2
  have HN3 := Lib.hid hn3
  clear e1 e2 hn2 hn3
  have bA := Box.new w 40 [.int .i64 k, .string n, .slice A l.length c, .slice A' kids.length c']
  have BW : Below w.heap.size w (w.alloc (.cells #[.int .i64 k, .string n, .slice A l.length c, .slice A' kids.length c'] 40)) := (Below.refl _ _).alloc (Nat.le_refl _) _
  have HB := Lib.hid (And.intro BW bA)
  clear BW bA
  go_enter Tryz.func16, Tryz.ntmps16
  have KW := Lib.hid (Wr.of_below (l := bl) HB.out.1)
  have KS1 := Lib.hid (D.Seps.below KS.out HB.out.1)
  clear KS
  have KS := KS1
  clear KS1
  have KB := Lib.hid HB.out.2
  obtain ⟨l2, x2, hx2, s2, nd2, sub2, f2⟩ := D.Seps.field (P := [D.int k, D.str n]) (d := strs l) (R := [rows Ty.ds 4 kids]) KS.out hnd
  obtain rfl : x2 = .slice A l.length c := by simpa using hx2.symm
  have K2 := Lib.hid (And.intro s2 (And.intro nd2 (And.intro sub2 f2)))
  clear s2 nd2 sub2 f2 hx2
  go_wp2_with fail
  refine ((markStringS_w l) _ l2 (k0) _ _ (by push_cast; first | rfl | omega) (by omega) (by rw [rows_count, HN2.out]; omega) K2.out.1 K2.out.2.1).mono ?_
  rintro e w1 ⟨m2, hm2, rfl, s2, wr2⟩
  have HM2 := Lib.hid (show m2 = k0 + n2 from by rw [hm2, rows_count, HN2.out])
  have hmb2 : m2 ≤ 1000000000000 := by have := HM2.out; omega
  have KS1 := Lib.hid (K2.out.2.2.2 _ _ wr2 s2)
  have KW1 := Lib.hid (KW.out.trans (wr2.mono K2.out.2.2.1))
  have KB1 := Lib.hid (show Box w1 w.heap.size 40 [.int .i64 k, .string n, .slice A l.length c, .slice A' kids.length c'] from (wr2.block _ KB.out.lt (fun hmm => Nat.lt_irrefl _ (D.Seps.lt _ _ _ HL0.out _ (K2.out.2.2.1 _ hmm)))).trans KB.out)
  clear KS KW KB hm2 s2 wr2 K2
  have KS := KS1
  have KW := KW1
  have KB := KB1
  clear KS1 KW1 KB1
  have cb := KB.out.cell
  obtain ⟨l3, x3, hx3, s3, nd3, sub3, f3⟩ := D.Seps.field (P := [D.int k, D.str n, D.sl l.length 1 (D.marks (k0) (l.flatMap strD))]) (d := rows Ty.ds 4 kids) (R := []) KS.out hnd
  obtain rfl : x3 = .slice A' kids.length c' := by simpa using hx3.symm
  have K3 := Lib.hid (And.intro s3 (And.intro nd3 (And.intro sub3 f3)))
  clear s3 nd3 sub3 f3 hx3
  go_wp2_with fail
  refine ((markTypeS_all kids) _ l3 (k0 + n2) _ _ (by have := HM2.out; push_cast; first | rfl | omega) (by omega) (by rw [rows_count, HN3.out]; omega) K3.out.1 K3.out.2.1).mono ?_
  rintro e w2 ⟨m3, hm3, rfl, s3, wr3⟩
  have HM3 := Lib.hid (show m3 = k0 + n2 + n3 from by rw [hm3, rows_count, HN3.out])
  have hmb3 : m3 ≤ 1000000000000 := by have := HM3.out; have := HM2.out; omega
  have KS1 := Lib.hid (K3.out.2.2.2 _ _ wr3 s3)
  have KW1 := Lib.hid (KW.out.trans (wr3.mono K3.out.2.2.1))
  have KB1 := Lib.hid (show Box w2 w.heap.size 40 [.int .i64 k, .string n, .slice A l.length c, .slice A' kids.length c'] from (wr3.block _ KB.out.lt (fun hmm => Nat.lt_irrefl _ (D.Seps.lt _ _ _ HL0.out _ (K3.out.2.2.1 _ hmm)))).trans KB.out)
  clear KS KW KB hm3 s3 wr3 K3 cb
  have KS := KS1
  have KW := KW1
  have KB := KB1
  clear KS1 KW1 KB1
  go_wp2
  go_ret
  exact ⟨m3, by have := HM2.out; have := HM3.out; omega, rfl, KS.out, KW.out⟩
end Go.Proofs.YtcpadaelgdmipaaGreatDoor
namespace Go.Proofs.YtcpadaelgdmipaaGreatDoor
open Go.RowKit

theorem D.At.any_ {w : World} {S : Nat → Prop} {d : D} {v : Value} (h : D.At w S d v) : D.At w anyB d v := h.weaken (fun _ _ => trivial)
theorem D.Ats.any_ {w : World} {S : Nat → Prop} {d : List D} {v : List Value} (h : D.Ats w S d v) : D.Ats w anyB d v := h.weaken (fun _ _ => trivial)
theorem SepIn.lt_ {w : World} {lo hi : Nat} {d : D} {v : Value} (h : SepIn w lo hi d v) : D.At w (fun b => b < hi) d v := by
  obtain ⟨_, l, g1, -, g3⟩ := h
  exact D.Sep.at_ d l v (fun b hb => (g3 b hb).2) g1
theorem SepsIn.lt_ {w : World} {lo hi : Nat} {d : List D} {v : List Value} (h : SepsIn w lo hi d v) : D.Ats w (fun b => b < hi) d v := by
  obtain ⟨_, l, g1, -, g3⟩ := h
  exact D.Seps.at_ d l v (fun b hb => (g3 b hb).2) g1
theorem strs_counts (l : List ByteArray) : D.counts (l.flatMap strD) = l.length := by
  induction l with
  | nil => rfl
  | cons x r ih => rw [List.flatMap_cons, D.counts_append, ih]; simp [strD, D.counts, D.count]; omega
theorem Ty.counts_le (x : Ty) : D.counts x.ds ≤ 7 * D.totals x.ds + 4 := by
  induction x using Ty.ind with
  | h k n l kids ih =>
    have key : ∀ ks : List Ty, (∀ y ∈ ks, D.counts y.ds ≤ 7 * D.totals y.ds + 4) → D.counts (ks.flatMap Ty.ds) ≤ 7 * D.totals (ks.flatMap Ty.ds) + 4 * ks.length := by
      intro ks
      induction ks with
      | nil => intro _; simp [D.counts]
      | cons y r ihr =>
        intro h
        have h1 := h y (by simp)
        have h2 := ihr (fun z hz => h z (by simp [hz]))
        rw [List.flatMap_cons, D.counts_append, D.totals_append, List.length_cons]
        omega
    have h1 := key kids ih
    have h2 := strs_counts l
    have e1 : D.counts (Ty.ds (.mk k n l kids)) = 2 + D.counts (l.flatMap strD) + D.counts (kids.flatMap Ty.ds) := by rw [Ty.ds_eq]; simp [D.counts, D.count, strs, rows]; omega
    have e2 : D.totals (Ty.ds (.mk k n l kids)) = n.size + (l.length + D.totals (l.flatMap strD)) + (kids.length + D.totals (kids.flatMap Ty.ds)) := by
      rw [Ty.ds_eq]; simp [D.totals, D.total, strs, rows]; omega
    omega
theorem Ty.topsC_le (x : Ty) : D.topsC x.ds ≤ 7 * D.totals x.ds + 4 := by
  have h := Ty.counts_le x
  obtain ⟨k, n, l, kids⟩ := x
  rw [Ty.ds_eq] at h ⊢
  simp only [D.topsC, D.topC, D.counts, D.count, strs, rows] at h ⊢
  omega
end Go.Proofs.YtcpadaelgdmipaaGreatDoor
