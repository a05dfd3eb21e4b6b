/- The greatest version of a list in a range: plain laws. -/
import Derived.Test.YtadngjalhekmlaaDoorInRan
namespace Go.Proofs.YtadngjalhekmlaaDoor
open Go.RowKit

def stepB (a b m : Int) (s : ByteArray) : Int := if m < numV s ∧ inRan s a b = true then numV s else m
def bestV (a b : Int) (L : List ByteArray) : Int := L.foldl (stepB a b) (-1)
theorem bestV_next {a b : Int} {L : List ByteArray} {k : Nat} {x : ByteArray} (h : L[k]? = some x) : bestV a b (L.take (k + 1)) = stepB a b (bestV a b (L.take k)) x := by
  unfold bestV
  rw [List.take_add_one, h, List.foldl_append]
  rfl
theorem stepB_out {a b m : Int} {s : ByteArray} (h : inRan s a b = false) : stepB a b m s = m := by
  unfold stepB
  rw [h]
  exact if_neg (by rintro ⟨_, h⟩; cases h)
theorem best_filter (a b : Int) (L : List ByteArray) : ∀ m, L.foldl (stepB a b) m = (L.filter (fun x => inRan x a b)).foldl (stepB a b) m := by
  induction L with
  | nil => intro m; rfl
  | cons x r ih =>
    intro m
    cases h : inRan x a b
    · rw [List.filter_cons_of_neg (p := fun x => inRan x a b) (by rw [h]; decide), List.foldl_cons, stepB_out h, ih]
    · rw [List.filter_cons_of_pos (p := fun x => inRan x a b) h, List.foldl_cons, List.foldl_cons, ih]
theorem inRan_num {s : ByteArray} {a b : Int} (h : inRan s a b = true) : ∃ m : Nat, m ≤ 999999999 ∧ numV s = (m : Int) ∧ s = verT m := by
  rcases numV_cases s with h1 | h1
  · unfold inRan at h
    rw [h1] at h
    cases h
  · exact h1
theorem stepB_range {a b m : Int} {s : ByteArray} (h : -1 ≤ m ∧ m ≤ 999999999) : -1 ≤ stepB a b m s ∧ stepB a b m s ≤ 999999999 := by
  unfold stepB
  split
  · rcases numV_cases s with h1 | ⟨k, hk, h1, -⟩ <;> omega
  · exact h
theorem best_range (a b : Int) (L : List ByteArray) : -1 ≤ bestV a b L ∧ bestV a b L ≤ 999999999 := by
  unfold bestV
  have H : ∀ m : Int, -1 ≤ m ∧ m ≤ 999999999 → -1 ≤ L.foldl (stepB a b) m ∧ L.foldl (stepB a b) m ≤ 999999999 := by
    induction L with
    | nil => intro m h; exact h
    | cons x r ih => intro m h; exact ih _ (stepB_range h)
  exact H (-1) (by decide)
/-- What BestIn gives back. -/
def bestT (a b : Int) (L : List ByteArray) : ByteArray := if bestV a b L < 0 then ⟨#[]⟩ else verT (bestV a b L).toNat
def bestIs (a b : Int) (L : List ByteArray) : Bool := !decide (bestV a b L < 0)
theorem best_none {a b : Int} {L : List ByteArray} (h : bestV a b L < 0) : bestT a b L = ⟨#[]⟩ ∧ bestIs a b L = false := by
  unfold bestT bestIs
  exact ⟨if_pos h, by simp [h]⟩
theorem best_some {a b : Int} {L : List ByteArray} (h : ¬ bestV a b L < 0) : bestT a b L = verT (bestV a b L).toNat ∧ bestIs a b L = true := by
  unfold bestT bestIs
  exact ⟨if_neg h, by simp [h]⟩
/-- m is the greatest of the first i, all in the range. -/
def MaxTo (a b : Int) (K : List ByteArray) (i : Nat) (m : ByteArray) : Prop := inRan m a b = true ∧ numV m = bestV a b (K.take i)
theorem MaxTo.start {a b : Int} {K : List ByteArray} {x : ByteArray} (h : K[0]? = some x) (hx : inRan x a b = true) : MaxTo a b K 1 x := by
  obtain ⟨m, -, hm, -⟩ := inRan_num hx
  refine ⟨hx, ?_⟩
  rw [bestV_next h]
  show numV x = stepB a b (-1) x
  unfold stepB
  rw [if_pos ⟨by omega, hx⟩]
theorem MaxTo.up {a b : Int} {K : List ByteArray} {i : Nat} {m x : ByteArray} (h : MaxTo a b K i m) (hx : K[i]? = some x) (hr : inRan x a b = true) (hg : numV m < numV x) : MaxTo a b K (i + 1) x := by
  refine ⟨hr, ?_⟩
  rw [bestV_next hx, ← h.2, stepB, if_pos ⟨hg, hr⟩]
theorem MaxTo.stay {a b : Int} {K : List ByteArray} {i : Nat} {m x : ByteArray} (h : MaxTo a b K i m) (hx : K[i]? = some x) (hg : ¬ numV m < numV x) : MaxTo a b K (i + 1) m := by
  refine ⟨h.1, ?_⟩
  rw [bestV_next hx, ← h.2, stepB, if_neg (fun c => hg c.1)]
theorem MaxTo.end_ {a b : Int} {L : List ByteArray} {m : ByteArray} (h : MaxTo a b (L.filter (fun x => inRan x a b)) (L.filter (fun x => inRan x a b)).length m) : bestT a b L = m ∧ bestIs a b L = true := by
  obtain ⟨k, -, hk, hm⟩ := inRan_num h.1
  have e : bestV a b L = (k : Int) := by
    rw [bestV, best_filter, ← hk, h.2, List.take_length]
    rfl
  have := best_some (a := a) (b := b) (L := L) (by omega)
  rw [this.1, e]
  exact ⟨hm.symm, this.2⟩
theorem best_empty {a b : Int} {L : List ByteArray} (h : L.filter (fun x => inRan x a b) = []) : bestT a b L = ⟨#[]⟩ ∧ bestIs a b L = false := by
  refine best_none ?_
  rw [bestV, best_filter, h]
  exact (by decide : (-1 : Int) < 0)
end Go.Proofs.YtadngjalhekmlaaDoor
