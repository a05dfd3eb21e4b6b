/- Marks: what the law's mark and held functions say. -/
import Derived.Test.YtofihcahimdbhaaMarkT
import Derived.Test.YtofihcahimdbhaaTyM
namespace Go.Proofs.Ytofihcahimdbhaa
open Go.RowKit

/-- A function lays marks from k on into all that it is handed. -/
def MkD (F : FuncId) (d : D) : Prop := ∀ (v : Value) (bl : List Nat) (k : Nat) (z : Int) (w : World), z = (k : Int) → 1 ≤ k → k + D.count d ≤ 1000000000000 → D.Sep w d bl v → bl.Nodup →
  Calls Try.prog F #[v, .int .i64 z] w fun e w' => ∃ m : Nat, m = k + D.count d ∧ e = .returned (.int .i64 (m : Int)) ∧ D.Sep w' (D.mark k d) bl v ∧ Wr bl w w'
/-- A function finds marks from k on in all that it is handed. -/
def HdD (F : FuncId) (d : D) : Prop := ∀ (v : Value) (k : Nat) (z : Int) (w : World), z = (k : Int) → 1 ≤ k → k + D.count d ≤ 1000000000000 → D.At w anyB (D.mark k d) v →
  Calls Try.prog F #[v, .int .i64 z] w fun e w' => ∃ m : Nat, m = k + D.count d ∧ e = .returned (.int .i64 (m : Int)) ∧ Below w.heap.size w w'
theorem markText_z (k : Nat) (z : Int) (hz : z = (k : Int)) (h0 : 1 ≤ k) (hk : k ≤ 1000000000000) (w : World) : Calls Try.prog 13 #[.int .i64 z] w fun e w' => e = .returned (.string (markT k)) ∧ Below w.heap.size w w' := by
  subst hz
  exact markText_w k h0 (by omega) w
theorem mk_str {s : ByteArray} (h : s.size ≤ 21) : s.size ≤ maxLen := by unfold maxLen; omega
theorem frozen_set (w : World) (a : Addr) (u : Value) (p : Addr) : (w.setCell a u).frozen? p = w.frozen? p := by simp
theorem rows_count {α : Type} (f : α → List D) (size : Nat) (l : List α) : D.count (rows f size l) = D.counts (l.flatMap f) := rfl
theorem rows_mark {α : Type} (f : α → List D) (size : Nat) (l : List α) (k : Nat) : D.mark k (rows f size l) = .sl l.length size (D.marks k (l.flatMap f)) := rfl
/-- Only the slices of a struct are marked. -/
def D.topC : D → Nat
  | .sl _ _ ds => D.counts ds
  | _ => 0
def D.topsC : List D → Nat
  | [] => 0
  | d :: r => D.topC d + D.topsC r
def D.topM (k : Nat) : D → D
  | .sl n size ds => .sl n size (D.marks k ds)
  | d => d
def D.topsM : Nat → List D → List D
  | _, [] => []
  | k, d :: r => D.topM k d :: D.topsM (k + D.topC d) r
def MkT (F : FuncId) (ds : List D) : Prop := ∀ (cs : List Value) (bl : List Nat) (k : Nat) (z : Int) (w : World), z = (k : Int) → 1 ≤ k → k + D.topsC ds ≤ 1000000000000 → D.Seps w ds bl cs → bl.Nodup →
  Calls Try.prog F #[.agg cs.toArray, .int .i64 z] w fun e w' => ∃ m : Nat, m = k + D.topsC ds ∧ e = .returned (.int .i64 (m : Int)) ∧ D.Seps w' (D.topsM k ds) bl cs ∧ Wr bl w w'
def HdT (F : FuncId) (ds : List D) : Prop := ∀ (cs : List Value) (k : Nat) (z : Int) (w : World), z = (k : Int) → 1 ≤ k → k + D.topsC ds ≤ 1000000000000 → D.Ats w anyB (D.topsM k ds) cs →
  Calls Try.prog F #[.agg cs.toArray, .int .i64 z] w fun e w' => ∃ m : Nat, m = k + D.topsC ds ∧ e = .returned (.int .i64 (m : Int)) ∧ Below w.heap.size w w'

end Go.Proofs.Ytofihcahimdbhaa
