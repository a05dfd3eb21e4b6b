/- Data in memory, each slice in a block of its own, all of them within a span of blocks; a row filled with such. No program in sight. -/
import Derived.Test.YtcpadaelgdmipaaGreatDoorSep
import Derived.Test.YtcpadaelgdmipaaGreatDoorRow4
namespace Go.Proofs.YtcpadaelgdmipaaGreatDoor
open Go.RowKit

def SepIn (w : World) (lo hi : Nat) (d : D) (v : Value) : Prop := lo ≤ hi ∧ ∃ l, D.Sep w d l v ∧ l.Nodup ∧ ∀ b ∈ l, lo ≤ b ∧ b < hi
def SepsIn (w : World) (lo hi : Nat) (ds : List D) (xs : List Value) : Prop := lo ≤ hi ∧ ∃ l, D.Seps w ds l xs ∧ l.Nodup ∧ ∀ b ∈ l, lo ≤ b ∧ b < hi
section
variable {w w' : World} {lo hi m : Nat} {d : D} {ds : List D} {v : Value} {xs : List Value}
theorem SepIn.keep (h : SepIn w lo hi d v) (hk : ∀ b, lo ≤ b → b < hi → w'.heap[b]? = w.heap[b]?) : SepIn w' lo hi d v := by
  obtain ⟨h0, l, h1, h2, h3⟩ := h
  exact ⟨h0, l, D.Sep.keep d l v (fun b hb => hk b (h3 b hb).1 (h3 b hb).2) h1, h2, h3⟩
theorem SepsIn.keep (h : SepsIn w lo hi ds xs) (hk : ∀ b, lo ≤ b → b < hi → w'.heap[b]? = w.heap[b]?) : SepsIn w' lo hi ds xs := by
  obtain ⟨h0, l, h1, h2, h3⟩ := h
  exact ⟨h0, l, D.Seps.keep ds l xs (fun b hb => hk b (h3 b hb).1 (h3 b hb).2) h1, h2, h3⟩
theorem SepIn.below (h : SepIn w lo hi d v) (hb : Below w.heap.size w w') (hh : hi ≤ w.heap.size) : SepIn w' lo hi d v := h.keep (fun b _ hlt => hb.block b (by omega))
theorem SepsIn.below (h : SepsIn w lo hi ds xs) (hb : Below w.heap.size w w') (hh : hi ≤ w.heap.size) : SepsIn w' lo hi ds xs := h.keep (fun b _ hlt => hb.block b (by omega))
theorem SepIn.set (h : SepIn w lo hi d v) {p : Addr} (hp : p.block < lo ∨ hi ≤ p.block) (u : Value) : SepIn (w.setCell p u) lo hi d v := h.keep (fun b h1 h2 => Below.heap_setCell _ _ _ _ (by omega))
theorem SepsIn.set (h : SepsIn w lo hi ds xs) {p : Addr} (hp : p.block < lo ∨ hi ≤ p.block) (u : Value) : SepsIn (w.setCell p u) lo hi ds xs := h.keep (fun b h1 h2 => Below.heap_setCell _ _ _ _ (by omega))
theorem SepIn.weaken {lo' hi' : Nat} (h : SepIn w lo hi d v) (h1 : lo' ≤ lo) (h2 : hi ≤ hi') : SepIn w lo' hi' d v := by
  obtain ⟨h0, l, g1, g2, g3⟩ := h
  exact ⟨by omega, l, g1, g2, fun b hb => ⟨Nat.le_trans h1 (g3 b hb).1, Nat.lt_of_lt_of_le (g3 b hb).2 h2⟩⟩
theorem SepsIn.weaken {lo' hi' : Nat} (h : SepsIn w lo hi ds xs) (h1 : lo' ≤ lo) (h2 : hi ≤ hi') : SepsIn w lo' hi' ds xs := by
  obtain ⟨h0, l, g1, g2, g3⟩ := h
  exact ⟨by omega, l, g1, g2, fun b hb => ⟨Nat.le_trans h1 (g3 b hb).1, Nat.lt_of_lt_of_le (g3 b hb).2 h2⟩⟩
theorem SepIn.at_ (h : SepIn w lo hi d v) : D.At w anyB d v := by
  obtain ⟨_, l, g1, -⟩ := h
  exact D.Sep.at_ d l v (fun _ _ => trivial) g1
theorem SepsIn.ats (h : SepsIn w lo hi ds xs) : D.Ats w anyB ds xs := by
  obtain ⟨_, l, g1, -⟩ := h
  exact D.Seps.at_ ds l xs (fun _ _ => trivial) g1
theorem SepIn.from_ (h : SepIn w lo hi d v) : D.At w (fun b => lo ≤ b) d v := by
  obtain ⟨_, l, g1, -, g3⟩ := h
  exact D.Sep.at_ d l v (fun b hb => (g3 b hb).1) g1
theorem SepsIn.from_ (h : SepsIn w lo hi ds xs) : D.Ats w (fun b => lo ≤ b) ds xs := by
  obtain ⟨_, l, g1, -, g3⟩ := h
  exact D.Seps.at_ ds l xs (fun b hb => (g3 b hb).1) g1
theorem SepsIn.nil (h : lo ≤ hi) : SepsIn w lo hi [] [] := ⟨h, [], D.Seps.nil, List.nodup_nil, fun b hb => by cases hb⟩
theorem SepsIn.cons (h : SepIn w lo m d v) (hq : SepsIn w m hi ds xs) : SepsIn w lo hi (d :: ds) (v :: xs) := by
  obtain ⟨a0, l, g1, g2, g3⟩ := h
  obtain ⟨b0, l', k1, k2, k3⟩ := hq
  refine ⟨by omega, l ++ l', D.Seps.cons g1 k1, List.nodup_append.2 ⟨g2, k2, fun a ha b hb e => ?_⟩, fun b hb => ?_⟩
  · have := (g3 a ha).2; have := (k3 b hb).1; omega
  · rcases List.mem_append.1 hb with hb | hb
    · have := g3 b hb; omega
    · have := k3 b hb; omega
theorem SepsIn.append {es : List D} {ys : List Value} (h : SepsIn w lo m ds xs) (hq : SepsIn w m hi es ys) : SepsIn w lo hi (ds ++ es) (xs ++ ys) := by
  obtain ⟨a0, l, g1, g2, g3⟩ := h
  obtain ⟨b0, l', k1, k2, k3⟩ := hq
  refine ⟨by omega, l ++ l', D.Seps.append g1 k1, List.nodup_append.2 ⟨g2, k2, fun a ha b hb e => ?_⟩, fun b hb => ?_⟩
  · have := (g3 a ha).2; have := (k3 b hb).1; omega
  · rcases List.mem_append.1 hb with hb | hb
    · have := g3 b hb; omega
    · have := k3 b hb; omega
theorem SepIn.int {n : Int} (h : -9223372036854775808 ≤ n ∧ n ≤ 9223372036854775807) : SepIn w lo lo (.int n) (.int .i64 n) := ⟨Nat.le_refl _, [], D.Sep.int_ h w, List.nodup_nil, fun b hb => by cases hb⟩
theorem SepIn.str {s : ByteArray} (h : s.size ≤ maxLen) : SepIn w lo lo (.str s) (.string s) := ⟨Nat.le_refl _, [], D.Sep.str_ h w, List.nodup_nil, fun b hb => by cases hb⟩
theorem SepIn.bool {b : Bool} : SepIn w lo lo (.bool b) (.bool b) := ⟨Nat.le_refl _, [], D.Sep.bool_ w, List.nodup_nil, fun b hb => by cases hb⟩
def RetSs (ds : List D) (w : World) (e : Ending) (w' : World) : Prop := ∃ cs, e = .returned (.agg cs.toArray) ∧ SepsIn w' w.heap.size w'.heap.size ds cs ∧ Below w.heap.size w w'
def RetS (d : D) (w : World) (e : Ending) (w' : World) : Prop := ∃ v, e = .returned v ∧ SepIn w' w.heap.size w'.heap.size d v ∧ Below w.heap.size w w'
end
/-- Row g of n elements is filled as far as k, all that it reaches in younger blocks, each slice in its own. -/
def FilledP (w0 w : World) (g : Nat) (t : TypeId) (size n k : Nat) (ds : List D) : Prop :=
  ∃ cur : Array Value, w.heap[g]? = some (.cells cur t (0, 0)) ∧ cur.size = n * size ∧ SepsIn w (g + 1) w.heap.size ds (cur.toList.take (k * size)) ∧ Below g w0 w ∧ w0.heap.size = g
theorem FilledP.start (w0 : World) (cur : Array Value) (t : TypeId) (size n : Nat) (h : cur.size = n * size) : FilledP w0 (w0.alloc (.cells cur t)) w0.heap.size t size n 0 [] :=
  ⟨cur, heap_alloc_new w0 _, h, by simpa using SepsIn.nil (by simp), (Below.refl _ _).alloc (Nat.le_refl _) _, rfl⟩
section
variable {w0 w w1 : World} {g : Nat} {t : TypeId} {size n k : Nat} {ds : List D}
theorem FilledP.lt (h : FilledP w0 w g t size n k ds) : g < w.heap.size := by
  obtain ⟨cur, hg, _⟩ := h
  exact (Array.getElem?_eq_some_iff.1 hg).1
theorem FilledP.cells (h : FilledP w0 w g t size n k ds) (hb : Below w.heap.size w w1) (j : Nat) (hj : j < n * size) : ∃ u, w1.cell? ⟨g, j, none⟩ = some u ∧ w1.frozen? ⟨g, j, none⟩ = false := by
  have hlt := h.lt
  obtain ⟨cur, hg, hs, _⟩ := h
  have hg' := (hb.block g hlt).trans hg
  refine ⟨cur[j]'(by omega), ?_, ?_⟩
  · rw [cell_of_row w1 g j cur t (0, 0) hg']; simp [hs, hj]
  · simp [World.frozen?, hg']
theorem FilledP.store (h : FilledP w0 w g t size n k ds) (hb : Below w.heap.size w w1) (hk : k < n) {es : List D} {vs : List Value} (hl : vs.length = size) (hv : SepsIn w1 w.heap.size w1.heap.size es vs) :
    FilledP w0 (putCells w1 g (k * size) vs) g t size n (k + 1) (ds ++ es) := by
  have hlt := h.lt
  obtain ⟨cur, hg, hs, ha, hw, h0⟩ := h
  have hg1 := (hb.block g hlt).trans hg
  have hw1 := hw.trans (hb.mono (Nat.le_of_lt hlt))
  have hle : k * size + vs.length ≤ cur.size := by
    rw [hl, hs, ← Nat.succ_mul]
    exact Nat.mul_le_mul_right size hk
  obtain ⟨⟨cs', h1, h2, h3⟩, h4, h5, h6, h7, h8⟩ := putCells_spec (t := t) vs (k * size) w1 cur hg1 hle
  have ha1 : SepsIn w1 (g + 1) w.heap.size ds (cur.toList.take (k * size)) := ha.below hb (Nat.le_refl _)
  refine ⟨cs', h1, by omega, ?_, ⟨h6.trans hw1.os, h7.trans hw1.tape, h8.trans hw1.output, by have := hw1.size; omega, fun b hb => (h4 b (by omega)).trans (hw1.block b hb)⟩, h0⟩
  rw [show (k + 1) * size = k * size + vs.length by rw [hl, Nat.succ_mul], h3, h5]
  exact SepsIn.keep (w := w1) (ha1.append hv) (fun b hb _ => h4 b (by omega))
theorem FilledP.done (h : FilledP w0 w g t size n n ds) (hn : n ≤ maxLen) (hds : n = 0 → ds = []) : SepIn w g w.heap.size (.sl n size ds) (.slice (some ⟨g, 0, none⟩) n n) := by
  have hlt := h.lt
  obtain ⟨cur, hg, hs, ⟨h00, l, k1, k2, k3⟩, hw, h0⟩ := h
  rcases Nat.eq_zero_or_pos n with e | e
  · subst e
    have := hds rfl
    subst this
    exact ⟨by omega, [], D.Sep.empty (Nat.zero_le _), List.nodup_nil, fun b hb => by cases hb⟩
  · refine ⟨by omega, g :: l, ?_, List.nodup_cons.2 ⟨fun hm => ?_, k2⟩, fun b hb => ?_⟩
    · unfold D.Sep
      exact ⟨_, n, cur.toList.take (n * size), rfl, Nat.le_refl _, hn, by simp [hs], .inr ⟨e, g, l, cur, t, rfl, rfl, hg, rfl, k1⟩⟩
    · have := (k3 g hm).1; omega
    · rcases List.mem_cons.1 hb with rfl | hb
      · exact ⟨Nat.le_refl _, hlt⟩
      · have := k3 b hb; omega
theorem FilledP.below (h : FilledP w0 w g t size n k ds) : Below w0.heap.size w0 w := by
  obtain ⟨_, _, _, _, hw, h0⟩ := h
  rw [h0]; exact hw
end
end Go.Proofs.YtcpadaelgdmipaaGreatDoor
