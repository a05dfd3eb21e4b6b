/- From the form's reading of an argument to data in memory. No program in sight. -/
import Derived.Test.YtcpadaelgdmipaaGreatDoorData
import Derived.ProofKit
import Derived.Deep.Slices
namespace Go.Proofs.YtcpadaelgdmipaaGreatDoor
open Go.RowKit Go.ChangeShapes

section
variable {H : Type} {enc : TypeId × Value → H} {P : Program} {w : World} {base : Nat} {spare : Nat → Bool} {held : Bool}
theorem add_plain (b off i : Nat) : (⟨b, off, none⟩ : Addr).add i = ⟨b, off + i, none⟩ := Addr.add_lit b off i
theorem spot_of_cell {a : Addr} {u : Value} (h : w.cell? a = some u) : a = ⟨a.block, a.off, none⟩ := by
  obtain ⟨b, o, s⟩ := a
  cases s with
  | none => rfl
  | some s =>
    unfold World.cell? at h
    split at h
    · simp at h
    · cases h
theorem slice_of_trod {α : Type} {f : α → List D} {size : Nat} {t e : TypeId} {n : Nat} {cs : List Value} {x : DataW H × List MemPlace} (ht : P.underlying t = some (.slice e)) (hC : P.cellsOf e = size) (hsz : 0 < size)
    (hf : ∀ a, (f a).length = size) (h : DataW.trod enc P w base spare held n t cs = some x)
    (he : ∀ (k : Nat) (cs' : List Value) y, k < n → DataW.trod enc P w base spare held k e cs' = some y → ∃ a : α, D.Ats w anyB (f a) cs') : ∃ v, ∃ l : List α, cs = [v] ∧ D.At w anyB (.sl l.length size (l.flatMap f)) v := by
  rcases DataW.trod_slice ht h with ⟨rfl, _⟩ | ⟨a, len, cap, elems, rest, n', rfl, rfl, _, _, hl, hm, hel, hcells, _, _⟩
  · exact ⟨_, [], rfl, by unfold D.At; exact ⟨none, 0, [], rfl, Nat.le_refl _, Nat.zero_le _, by simp, fun h => absurd h (by simp), D.Ats.nil⟩⟩
  · subst hC
    have hone : ∀ i, i < len → ∃ cs' y, w.cells? base (a.add (i * P.cellsOf e)) (P.cellsOf e) = some cs' ∧ DataW.trod enc P w base spare held n' e cs' = some y := by
      intro i hi
      have h1 := hcells i hi
      have h2 : elems[i]? = some elems[i] := List.getElem?_eq_getElem (by omega)
      rw [h2] at h1
      cases hc : w.cells? base (a.add (i * P.cellsOf e)) (P.cellsOf e) with
      | none => rw [hc] at h1; simp at h1
      | some cs' => rw [hc] at h1; exact ⟨cs', _, rfl, h1⟩
    have hform : 0 < len → a = ⟨a.block, a.off, none⟩ ∧ a.block < w.heap.size := by
      intro hlen
      obtain ⟨cs', y, h1, _⟩ := hone 0 hlen
      obtain ⟨_, h3, h4⟩ := World.cells?_some h1
      have h5 := h4 0 hsz
      have h6 : cs'[0]? = some (cs'[0]'(by omega)) := List.getElem?_eq_getElem (by omega)
      rw [h6] at h5
      have e0 : ((a.add (0 * P.cellsOf e)).add 0) = a := by simp [Addr.add]
      rw [e0] at h5
      exact ⟨spot_of_cell h5, World.block_lt_of_cell? w a h5⟩
    have key : ∀ k, k ≤ len → ∃ (l : List α) (xs : List Value), l.length = k ∧ xs.length = k * P.cellsOf e ∧ D.Ats w anyB (l.flatMap f) xs ∧ ∀ j u, xs[j]? = some u → w.cell? ⟨a.block, a.off + j, none⟩ = some u := by
      intro k
      induction k with
      | zero => exact fun _ => ⟨[], [], rfl, by simp, D.Ats.nil, fun j u h => by simp at h⟩
      | succ k ih =>
        intro hk
        obtain ⟨l, xs, h1, h2, h3, h4⟩ := ih (by omega)
        obtain ⟨cs', y, g1, g2⟩ := hone k (by omega)
        obtain ⟨x, g3⟩ := he n' cs' y (by omega) g2
        obtain ⟨_, g4, g5⟩ := World.cells?_some g1
        refine ⟨l ++ [x], xs ++ cs', by simp [h1], by rw [List.length_append, h2, g4, Nat.succ_mul], by simpa using h3.append (by simpa using g3), fun j u hu => ?_⟩
        by_cases hj : j < xs.length
        · rw [List.getElem?_append_left hj] at hu
          exact h4 j u hu
        · rw [List.getElem?_append_right (by omega)] at hu
          have hlt : j - xs.length < P.cellsOf e := by
            have := (List.getElem?_eq_some_iff.1 hu).1
            omega
          have g6 := g5 (j - xs.length) hlt
          rw [hu, (hform (by omega)).1, add_plain, add_plain] at g6
          rw [show a.off + j = a.off + k * P.cellsOf e + (j - xs.length) by omega]
          exact g6
    obtain ⟨l, xs, h1, h2, h3, h4⟩ := key len (Nat.le_refl _)
    refine ⟨_, l, rfl, ?_⟩
    unfold D.At
    subst h1
    refine ⟨some a, cap, xs, rfl, hl, hm, h2, fun hlen => ⟨a.block, a.off, ?_, trivial, (hform hlen).2, h4⟩, h3⟩
    rw [← (hform hlen).1]
end
end Go.Proofs.YtcpadaelgdmipaaGreatDoor
