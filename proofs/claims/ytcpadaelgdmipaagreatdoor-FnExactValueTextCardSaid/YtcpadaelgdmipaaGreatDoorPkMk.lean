/- The law's own marks: the text of a mark; a row of texts marked, and held against its marks. Marks: what the law's mark and held functions say. Int64: rows of such, marked and held. -/
import Derived.Test.YtcpadaelgdmipaaGreatDoorCore
import Derived.Test.YtcpadaelgdmipaaGreatDoorSep
import Derived.Test.YtcpadaelgdmipaaGreatDoorStrs
import Derived.Test.YtcpadaelgdmipaaGreatDoorTyM
import Derived.Test.YtcpadaelgdmipaaGreatDoorTyKind
import Derived.Deep.QuietTactic
import Derived.BigQuiet
namespace Go.Proofs.YtcpadaelgdmipaaGreatDoor
open Go.RowKit

theorem one_string (w : World) (c : UInt8) (y : Int) (hy : (c.toNat : Int) = y) (g : Nat) (hg : w.heap.size = g) :
    (convert 113 9 (.slice (some ⟨g, 0, none⟩) 1 1)).run Tryz.prog (w.alloc (.cells #[.int .u8 y] 5)) = .ok (.string ⟨#[c]⟩) (w.alloc (.cells #[.int .u8 y] 5)) := by
  subst hy hg
  have := own_string (w := w.alloc (.cells #[.int .u8 (c.toNat : Int)] 5)) (base := 0) (v := .slice (some ⟨w.heap.size, 0, none⟩) 1 1) (n := 1) (l := [c])
    (World.ownsRow_lit _ _ _ (Nat.zero_le _) (by decide) (by rfl))
  exact this
theorem pow_small {q f : Nat} (h : q < 10 ^ f) (h0 : 0 < q) : ∃ f', f = f' + 1 ∧ q / 10 < 10 ^ f' := by
  cases f with
  | zero => simp at h; omega
  | succ f => exact ⟨f, rfl, by rw [Nat.div_lt_iff_lt_mul (by omega), ← Nat.pow_succ]; exact h⟩
set_option maxHeartbeats 1000000 in
set_option maxRecDepth 20000 in
theorem markText_w (k : Nat) (h0 : 1 ≤ k) (hk : k ≤ 1000000000000000000) (w : World) : Calls Tryz.prog 57 #[.int .i64 k] w fun e w' => e = .returned (.string (markT k)) ∧ Below w.heap.size w w' := by
  have hk0 : ¬ ((k : Int) ≤ 0) := by omega
  go_enter Tryz.func57, Tryz.ntmps57
  go_wp2
  go_loopw [0, 3] (fun kk out wr => ∃ (f q : Nat) (T : ByteArray), kk = .int .i64 q ∧ out = .string T ∧ q < 10 ^ f ∧ q ≤ k ∧ T.size + f ≤ 20 ∧ markD f q T.data.toList = markD 20 k [] ∧ Below w.heap.size w wr) (fun kk _ _ => (intOf kk).toNat)
  case atStart => exact ⟨20, k, ⟨#[]⟩, rfl, rfl, by omega, Nat.le_refl _, by decide, rfl, Below.refl _ _⟩
  case round =>
    obtain ⟨f, q, T, rfl, rfl, hf, hqk, hT, hm, hb⟩ := hrel
    have hbs := hb.size
    by_cases hq : 0 < q
    · obtain ⟨f', rfl, hf'⟩ := pow_small hf hq
      have hqi : (0 : Int) < (q : Int) := by omega
      have hcv := one_string wr (UInt8.ofNat (48 + q % 10)) (48 + (q : Int) % 10) (by simp; omega) wr.heap.size rfl
      have HM := Lib.hid hm
      have HF := Lib.hid (And.intro hf' hf)
      clear hm hf' hf
      go_wp2
      go_roundw
      case rel =>
        refine ⟨f', q / 10, ⟨#[UInt8.ofNat (48 + q % 10)]⟩ ++ T, by go_num, by simp, HF.out.1, by omega, ?_, ?_, hb.alloc hbs _⟩
        · rw [ByteArray.size_append]
          show 1 + T.size + f' ≤ 20
          omega
        · rw [← HM.out]
          conv => rhs; unfold markD
          rw [if_neg (by omega)]
          simp
      case measure => simp [intOf]; omega
    · obtain rfl : q = 0 := by omega
      have HM := Lib.hid hm
      clear hm hf
      go_wp2
      go_ret
      refine ⟨ret_eq ?_, hb⟩
      have h := HM.out
      have e : markD f 0 T.data.toList = T.data.toList := by cases f with | zero => rfl | succ f => unfold markD; rw [if_pos rfl]
      rw [e] at h
      unfold markT
      rw [if_neg (by omega), ← h]
      exact congrArg Value.string (ByteArray.ext (by simp))
end Go.Proofs.YtcpadaelgdmipaaGreatDoor
namespace Go.Proofs.YtcpadaelgdmipaaGreatDoor
open Go.RowKit

/-- A function lays marks from k on into all that it is handed. -/
def MkD (F : FuncId) (d : D) : Prop := ∀ (v : Value) (bl : List Nat) (k : Nat) (z : Int) (w : World), z = (k : Int) → 1 ≤ k → k + D.count d ≤ 1000000000000 → D.Sep w d bl v → bl.Nodup →
  Calls Tryz.prog F #[v, .int .i64 z] w fun e w' => ∃ m : Nat, m = k + D.count d ∧ e = .returned (.int .i64 (m : Int)) ∧ D.Sep w' (D.mark k d) bl v ∧ Wr bl w w'
/-- A function finds marks from k on in all that it is handed. -/
def HdD (F : FuncId) (d : D) : Prop := ∀ (v : Value) (k : Nat) (z : Int) (w : World), z = (k : Int) → 1 ≤ k → k + D.count d ≤ 1000000000000 → D.At w anyB (D.mark k d) v →
  Calls Tryz.prog F #[v, .int .i64 z] w fun e w' => ∃ m : Nat, m = k + D.count d ∧ e = .returned (.int .i64 (m : Int)) ∧ Below w.heap.size w w'
theorem markText_z (k : Nat) (z : Int) (hz : z = (k : Int)) (h0 : 1 ≤ k) (hk : k ≤ 1000000000000) (w : World) : Calls Tryz.prog 57 #[.int .i64 z] w fun e w' => e = .returned (.string (markT k)) ∧ Below w.heap.size w w' := by
  subst hz
  exact markText_w k h0 (by omega) w
theorem mk_str {s : ByteArray} (h : s.size ≤ 21) : s.size ≤ maxLen := by unfold maxLen; omega
theorem frozen_set (w : World) (a : Addr) (u : Value) (p : Addr) : (w.setCell a u).frozen? p = w.frozen? p := by simp
theorem rows_count {α : Type} (f : α → List D) (size : Nat) (l : List α) : D.count (rows f size l) = D.counts (l.flatMap f) := rfl
theorem rows_mark {α : Type} (f : α → List D) (size : Nat) (l : List α) (k : Nat) : D.mark k (rows f size l) = .sl l.length size (D.marks k (l.flatMap f)) := rfl
/-- Only the slices of a struct are marked. -/
def D.topC : D → Nat
  | .sl _ _ ds => D.counts ds
  | _ => 0
def D.topsC : List D → Nat
  | [] => 0
  | d :: r => D.topC d + D.topsC r
def D.topM (k : Nat) : D → D
  | .sl n size ds => .sl n size (D.marks k ds)
  | d => d
def D.topsM : Nat → List D → List D
  | _, [] => []
  | k, d :: r => D.topM k d :: D.topsM (k + D.topC d) r
def MkT (F : FuncId) (ds : List D) : Prop := ∀ (cs : List Value) (bl : List Nat) (k : Nat) (z : Int) (w : World), z = (k : Int) → 1 ≤ k → k + D.topsC ds ≤ 1000000000000 → D.Seps w ds bl cs → bl.Nodup →
  Calls Tryz.prog F #[.agg cs.toArray, .int .i64 z] w fun e w' => ∃ m : Nat, m = k + D.topsC ds ∧ e = .returned (.int .i64 (m : Int)) ∧ D.Seps w' (D.topsM k ds) bl cs ∧ Wr bl w w'
def HdT (F : FuncId) (ds : List D) : Prop := ∀ (cs : List Value) (k : Nat) (z : Int) (w : World), z = (k : Int) → 1 ≤ k → k + D.topsC ds ≤ 1000000000000 → D.Ats w anyB (D.topsM k ds) cs →
  Calls Tryz.prog F #[.agg cs.toArray, .int .i64 z] w fun e w' => ∃ m : Nat, m = k + D.topsC ds ∧ e = .returned (.int .i64 (m : Int)) ∧ Below w.heap.size w w'

end Go.Proofs.YtcpadaelgdmipaaGreatDoor
namespace Go.Proofs.YtcpadaelgdmipaaGreatDoor
open Go.RowKit

set_option maxHeartbeats 2000000 in
set_option maxRecDepth 20000 in
theorem markInt64S_w (l : List Int) : MkD 17 (rows intD 1 l) := by
  intro v bl k z w hz h1 hk hv hnd
  subst hz
  rw [rows_count] at hk ⊢
  have HC := Lib.hid hk
  rw [rows_mark]
  unfold rows at hv
  obtain ⟨A, cap, rfl, hn, hc, -⟩ := hv.sl_form
  unfold maxLen at hc
  have HV := Lib.hid hv
  clear hv
  go_enter Tryz.func17, Tryz.ntmps17
  go_wp2
  go_loopw [1, 5] (fun kk i wr => ∃ (j Q : Nat), j ≤ l.length ∧ i = .int .i64 j ∧ kk = .int .i64 (Q : Int) ∧ Q = k + D.counts ((l.take j).flatMap intD) ∧ D.Sep wr (.sl l.length 1 (D.marks k ((l.take j).flatMap intD) ++ (l.drop j).flatMap intD)) bl (.slice A l.length cap) ∧ Wr bl w wr) (fun _ i _ => l.length - (intOf i).toNat)
  case atStart => exact ⟨0, k, Nat.zero_le _, rfl, rfl, by simp [D.counts], by simpa [D.marks] using HV.out, Wr.refl _ _⟩
  case round =>
    obtain ⟨j, Q, hj, rfl, rfl, hQ, hS, hW⟩ := hrel
    by_cases hlt : j < l.length
    · obtain ⟨x, hx⟩ : ∃ x, l[j]? = some x := ⟨l[j], List.getElem?_eq_getElem hlt⟩
      have hj0 : (0 : Int) ≤ (j : Int) := by omega
      have hj1 : (j : Int) < (l.length : Int) := by omega
      have hQ1 : 1 ≤ Q := by omega
      have hQb : Q + D.counts (intD x) ≤ 1000000000000 := by have h2 := counts_take intD l (j + 1); rw [counts_next hx] at h2; omega
      have HN := Lib.hid (And.intro (counts_next (f := intD) hx) (marks_next (f := intD) (k := k) hx))
      have HQ := Lib.hid hQ
      rw [rows_split hx] at hS
      obtain ⟨R, hR⟩ : ∃ R, (l.drop (j + 1)).flatMap intD = R := ⟨_, rfl⟩
      rw [hR] at hS
      obtain ⟨P, hP⟩ : ∃ P, D.marks k ((l.take j).flatMap intD) = P := ⟨_, rfl⟩
      have hPl : P.length = j := by rw [← hP, D.marks_length, flat_length intD_length, List.length_take, Nat.min_eq_left (by omega)]; omega
      rw [hP] at hS
      have HRP := Lib.hid (And.intro hR hP)
      clear hR hP hx hQ
      have e0 : intD x = [.int x] := by simp [intD]
      have e1 : D.counts (intD x) = 1 := by rw [e0]; simp [D.counts, D.count]
      rw [e1] at hQb
      have e2 : D.marks Q (intD x) = [D.int ((Q : Nat) : Int)] := by rw [e0]; simp only [D.marks, D.mark]
      have HE := Lib.hid (And.intro e1 e2)
      rw [e0] at hS
      have S0 : D.Sep wr (.sl l.length 1 (P ++ .int x :: (R))) bl (.slice A l.length cap) := hS
      obtain ⟨g, rfl, hg⟩ := S0.block hnd
      have KS := Lib.hid S0
      clear hS S0 e0 e1 e2
      have KW := Lib.hid hW
      clear hW
      obtain ⟨⟨c0, z0⟩, f0⟩ := D.Sep.step_int (j) (by simp [hPl]) KS.out hnd
      have KS0 := Lib.hid (f0 ((Q : Nat) : Int) (by omega))
      have KW0 := Lib.hid (KW.out.set (p := ⟨g, j, none⟩) hg (.int .i64 ((Q : Nat) : Int)))
      clear KS KW f0
      have KS := KS0
      have KW := KW0
      clear KS0 KW0
      go_wp2
      go_roundw
      case rel =>
        refine ⟨j + 1, Q + 1, by omega, by go_num, by first | rfl | go_num, ?_, ?_, KW.out⟩
        · rw [HN.out.1, HE.out.1]; have := HQ.out; omega
        · rw [HN.out.2, ← HQ.out, HE.out.2, HRP.out.1, HRP.out.2]
          have h := KS.out
          first | exact h | simpa using h
      case measure => simp [intOf]; omega
    · obtain rfl : j = l.length := by omega
      have KS := Lib.hid hS
      have HQ := Lib.hid hQ
      clear hS hQ
      go_wp2
      go_ret
      refine ⟨Q, ?_, rfl, ?_, hW⟩
      · have h := HQ.out; rw [List.take_length] at h; exact h
      · have h := KS.out; rw [List.take_length, List.drop_length] at h; simpa using h
theorem markInt64S_all (l : List Int) : MkD 17 (rows intD 1 l) := markInt64S_w l
end Go.Proofs.YtcpadaelgdmipaaGreatDoor
