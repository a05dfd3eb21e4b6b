/- A row that the call made whole and fills element by element: what is told of it while it is filled. No program in sight. -/
import Derived.Test.YtcpadaelgdmipaaGreatDoorData
import Derived.Deep.Draws
namespace Go.Proofs.YtcpadaelgdmipaaGreatDoor
open Go.RowKit

/-- Cells written one behind the other. -/
def putCells (w : World) (g : Nat) : Nat → List Value → World
  | _, [] => w
  | o, v :: r => putCells (w.setCell ⟨g, o, none⟩ v) g (o + 1) r

theorem heap_setCell_self {w : World} {g o : Nat} {t : TypeId} {cs : Array Value} (h : w.heap[g]? = some (.cells cs t (0, 0))) (v : Value) : (w.setCell ⟨g, o, none⟩ v).heap[g]? = some (.cells (cs.setIfInBounds o v) t (0, 0)) := by
  simp [World.setCell, Array.getElem?_modify, h]

theorem putCells_spec {g : Nat} {t : TypeId} (vs : List Value) : ∀ (o : Nat) (w : World) (cs : Array Value), w.heap[g]? = some (.cells cs t (0, 0)) → o + vs.length ≤ cs.size →
    (∃ cs', (putCells w g o vs).heap[g]? = some (.cells cs' t (0, 0)) ∧ cs'.size = cs.size ∧ cs'.toList.take (o + vs.length) = cs.toList.take o ++ vs) ∧
    (∀ b, b ≠ g → (putCells w g o vs).heap[b]? = w.heap[b]?) ∧ (putCells w g o vs).heap.size = w.heap.size ∧ (putCells w g o vs).os = w.os ∧ (putCells w g o vs).tape = w.tape ∧ (putCells w g o vs).output = w.output := by
  induction vs with
  | nil => intro o w cs h _; exact ⟨⟨cs, h, rfl, by simp⟩, fun _ _ => rfl, rfl, rfl, rfl, rfl⟩
  | cons v r ih =>
    intro o w cs h hl
    simp only [List.length_cons] at hl
    obtain ⟨⟨cs', h1, h2, h3⟩, h4, h5, h6, h7, h8⟩ := ih (o + 1) (w.setCell ⟨g, o, none⟩ v) (cs.setIfInBounds o v) (heap_setCell_self h v) (by simp; omega)
    refine ⟨⟨cs', h1, by simpa using h2, ?_⟩, fun b hb => ?_, ?_, h6, h7, h8⟩
    · rw [List.length_cons, show o + (r.length + 1) = o + 1 + r.length by omega, h3]
      have : (cs.setIfInBounds o v).toList.take (o + 1) = cs.toList.take o ++ [v] := by
        have ho : o < cs.toList.length := by simp; omega
        have e : cs.toList.set o v = (cs.toList.take o ++ [v]) ++ cs.toList.drop (o + 1) := by
          rw [List.set_eq_take_append_cons_drop, if_pos ho]; simp
        have el : o + 1 = (cs.toList.take o ++ [v]).length := by rw [List.length_append, List.length_take]; simp; simp at ho; omega
        rw [Array.toList_setIfInBounds, e, el, List.take_left]
      rw [this]
      simp
    · rw [putCells, h4 b hb, Below.heap_setCell _ _ _ _ hb]
    · rw [putCells, h5]; simp [World.setCell]

/-- Row g of n elements is filled as far as k: the filled part holds these, all that they reach in younger blocks. -/
def Filled (w0 w : World) (g : Nat) (t : TypeId) (size n k : Nat) (ds : List D) : Prop :=
  ∃ cur : Array Value, w.heap[g]? = some (.cells cur t (0, 0)) ∧ cur.size = n * size ∧ D.Ats w (fun b => g < b) ds (cur.toList.take (k * size)) ∧ Below g w0 w ∧ w0.heap.size = g
theorem Filled.start (w0 : World) (cur : Array Value) (t : TypeId) (size n : Nat) (h : cur.size = n * size) : Filled w0 (w0.alloc (.cells cur t)) w0.heap.size t size n 0 [] :=
  ⟨cur, heap_alloc_new w0 _, h, by simp [D.Ats], (Below.refl _ _).alloc (Nat.le_refl _) _, rfl⟩
section
variable {w0 w w1 : World} {g : Nat} {t : TypeId} {size n k : Nat} {ds : List D}
theorem Filled.lt (h : Filled w0 w g t size n k ds) : g < w.heap.size := by
  obtain ⟨cur, hg, _⟩ := h
  exact (Array.getElem?_eq_some_iff.1 hg).1
theorem Filled.call (h : Filled w0 w g t size n k ds) (hb : Below w.heap.size w w1) : Filled w0 w1 g t size n k ds := by
  have hlt := h.lt
  obtain ⟨cur, hg, hs, ha, hw, h0⟩ := h
  exact ⟨cur, (hb.block g hlt).trans hg, hs, ha.below hb, hw.trans (hb.mono (by omega)), h0⟩
/-- The cells that a store meets. -/
theorem Filled.cells (h : Filled w0 w g t size n k ds) (j : Nat) (hj : j < n * size) : ∃ u, w.cell? ⟨g, j, none⟩ = some u ∧ w.frozen? ⟨g, j, none⟩ = false := by
  obtain ⟨cur, hg, hs, _⟩ := h
  refine ⟨cur[j]'(by omega), ?_, ?_⟩
  · rw [cell_of_row w g j cur t (0, 0) hg]; simp [hs, hj]
  · simp [World.frozen?, hg]
theorem Filled.store (h : Filled w0 w g t size n k ds) (hk : k < n) {es : List D} {vs : List Value} (hl : vs.length = size) (hv : D.Ats w (fun b => g < b) es vs) : Filled w0 (putCells w g (k * size) vs) g t size n (k + 1) (ds ++ es) := by
  have hlt := h.lt
  obtain ⟨cur, hg, hs, ha, hw, h0⟩ := h
  have hle : k * size + vs.length ≤ cur.size := by
    rw [hl, hs, ← Nat.succ_mul]
    exact Nat.mul_le_mul_right size hk
  obtain ⟨⟨cs', h1, h2, h3⟩, h4, h5, h6, h7, h8⟩ := putCells_spec (t := t) vs (k * size) w cur hg hle
  have hkeep : ∀ b, b < w.heap.size → g < b → (putCells w g (k * size) vs).heap[b]? = w.heap[b]? ∧ g < b ∧ b < (putCells w g (k * size) vs).heap.size := fun b hb hgb => ⟨h4 b (by omega), hgb, by omega⟩
  refine ⟨cs', h1, by omega, ?_, ⟨h6.trans hw.os, h7.trans hw.tape, h8.trans hw.output, by have := hw.size; omega, fun b hb => (h4 b (by omega)).trans (hw.block b hb)⟩, h0⟩
  rw [show (k + 1) * size = k * size + vs.length by rw [hl, Nat.succ_mul], h3]
  exact (ha.keep hkeep).append (hv.keep hkeep)
theorem Filled.done (h : Filled w0 w g t size n n ds) (hn : n ≤ maxLen) : D.At w (fun b => g ≤ b) (.sl n size ds) (.slice (some ⟨g, 0, none⟩) n n) := by
  have hlt := h.lt
  obtain ⟨cur, hg, hs, ha, hw, h0⟩ := h
  rw [← hs, List.take_of_length_le (by simp)] at ha
  unfold D.At
  refine ⟨some ⟨g, 0, none⟩, n, cur.toList, rfl, Nat.le_refl _, hn, by simpa using hs, fun _ => ⟨g, 0, rfl, Nat.le_refl _, hlt, fun j u hu => ?_⟩, ha.weaken (fun b hb => Nat.le_of_lt hb)⟩
  rw [Nat.zero_add, cell_of_row w g j cur t (0, 0) hg]
  simpa using hu
theorem Filled.below (h : Filled w0 w g t size n k ds) : Below w0.heap.size w0 w := by
  obtain ⟨_, _, _, _, hw, h0⟩ := h
  rw [h0]; exact hw
end
end Go.Proofs.YtcpadaelgdmipaaGreatDoor
