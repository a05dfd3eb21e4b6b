/- Append of a row of texts to a new empty row; what comes of it lies in a block of its own. -/
import Derived.Test.YtnfkdncfbojiiaaOwnP
import Derived.Deep.Upon
namespace Go.Proofs.Ytnfkdncfbojiiaa
open Go.RowKit

theorem strs_xs {w : World} {S : Nat → Prop} {l : List ByteArray} {xs : List Value} (h : D.Ats w S (l.flatMap strD) xs) : xs = l.map Value.string ∧ ∀ s ∈ l, s.size ≤ maxLen := by
  induction l generalizing xs with
  | nil => simp only [List.flatMap_nil, D.Ats] at h; exact ⟨h, fun s hs => by cases hs⟩
  | cons s r ih =>
    rw [List.flatMap_cons] at h
    obtain ⟨vs, rfl, h1, h2⟩ := D.Ats.str_cell (r := r.flatMap strD) h
    obtain ⟨rfl, h3⟩ := ih h2
    refine ⟨rfl, fun x hx => ?_⟩
    rcases List.mem_cons.1 hx with rfl | hx
    · exact h1
    · exact h3 x hx
theorem seps_texts {l : List ByteArray} (hs : ∀ s ∈ l, s.size ≤ maxLen) (w : World) : D.Seps w (l.flatMap strD) [] (l.map Value.string) := by
  induction l with
  | nil => exact D.Seps.nil
  | cons s r ih => exact D.Seps.append (l1 := []) (l2 := []) (D.Seps.cons (l1 := []) (l2 := []) (D.Sep.str_ (hs s (by simp)) w) D.Seps.nil) (ih (fun x hx => hs x (by simp [hx])))
theorem own_slice {w : World} {base size n : Nat} {e : TypeId} {v : Value} {xs : List Value} (ho : w.ownsRow base e size v n xs) : ∃ A c, v = .slice A n c := by
  rcases ho.2 with ⟨rfl, rfl⟩ | ⟨g, cap, cur, rfl, -⟩
  · exact ⟨_, _, rfl⟩
  · exact ⟨_, _, rfl⟩
/-- An owned row of texts is one block, or none. -/
theorem own_texts {w : World} {base : Nat} {e : TypeId} {v : Value} {l : List ByteArray} (ho : w.ownsRow base e 1 v l.length (l.map Value.string)) (hs : ∀ s ∈ l, s.size ≤ maxLen) (hl : l.length ≤ maxLen) :
    ∃ bl, D.Sep w (strs l) bl v ∧ bl.Nodup ∧ ∀ b ∈ bl, v.ownBlock = some b ∧ base ≤ b ∧ b < w.heap.size := by
  have hS := seps_texts hs w
  rcases Nat.eq_zero_or_pos l.length with h0 | h0
  · have hR : l = [] := List.eq_nil_of_length_eq_zero h0
    subst hR
    rcases ho.2 with ⟨rfl, -⟩ | ⟨g, cap, cur, rfl, -, -, -, hm, -⟩
    · exact ⟨[], D.Sep.empty (Nat.zero_le _), List.nodup_nil, fun b hb => by cases hb⟩
    · exact ⟨[], D.Sep.empty hm, List.nodup_nil, fun b hb => by cases hb⟩
  · obtain ⟨g, hg, h⟩ := D.Sep.of_own ho hS h0
    have hlt := ho.lt g hg
    exact ⟨[g], h, by simp, fun b hb => by simp at hb; subst hb; exact ⟨hg, hlt⟩⟩
theorem own_textsIn {w : World} {base : Nat} {e : TypeId} {v : Value} {l : List ByteArray} (ho : w.ownsRow base e 1 v l.length (l.map Value.string)) (hs : ∀ s ∈ l, s.size ≤ maxLen) (hl : l.length ≤ maxLen) (hb : base ≤ w.heap.size) : SepIn w base w.heap.size (strs l) v := by
  obtain ⟨bl, h1, h2, h3⟩ := own_texts ho hs hl
  exact ⟨hb, bl, h1, h2, fun b hm => (h3 b hm).2⟩
section
variable {P : Program}
theorem run_texts (w : World) {t ty e : TypeId} {i : TypeInfo} (ht : P.underlying t = some (.slice e)) (hi : P.info? e = some i) (hz : i.zero = some (.string ⟨#[]⟩)) (hz1 : i.size = 1) (hz2 : i.bytes = 16) {G base : Nat} (hG : w.heap[G]? = some (.cells #[] e (0, 0))) (hb : base ≤ G)
    {l : List ByteArray} {A : Option Addr} {cap : Nat} (hx : D.At w anyB (strs l) (.slice A l.length cap)) (hl : l.length ≤ 4194304) :
    ∃ v' w', (Builtin.append_ #[t, t] ty #[.slice (some ⟨G, 0, none⟩) 0 0, .slice A l.length cap]).run P w = .ok v' w' ∧ w'.ownsRow base e 1 v' l.length (l.map Value.string) ∧ w.grownBy w' (some G) ∧ (v'.ownBlock = some G ∨ v'.ownBlock = some w.heap.size) := by
  have hGl : G < w.heap.size := (Array.getElem?_eq_some_iff.1 hG).1
  have hown : w.ownsRow base e 1 (.slice (some ⟨G, 0, none⟩) 0 0) 0 [] := ⟨rfl, .inr ⟨G, 0, #[], rfl, hb, hG, Nat.le_refl _, Nat.zero_le _, rfl, rfl⟩⟩
  rcases Nat.eq_zero_or_pos l.length with h0 | h0
  · have hR : l = [] := List.eq_nil_of_length_eq_zero h0
    subst hR
    have hs : Src P i.size t (.slice A 0 cap) 0 [] w := by
      unfold strs rows at hx
      simp only [D.At] at hx
      cases A with
      | none => exact Src.ofNil w ht cap
      | some a => exact Src.ofSlice w ht a 0 cap [] (by simp) (fun j u h => by simp at h) (fun u hu => by cases hu)
    exact ⟨_, w, run_append_nothing w t t ty e i ht hi _ 0 0 (Nat.le_refl _) _ hs, hown, ⟨rfl, rfl, rfl, Nat.le_refl _, fun _ _ _ => rfl⟩, .inl rfl⟩
  · unfold strs rows at hx
    simp only [D.At] at hx
    obtain ⟨A', cap', xs, hv, h1, h2, h3, h4, h5⟩ := hx
    injection hv with e1 e2 e3
    subst e1 e3
    obtain ⟨rfl, -⟩ := strs_xs h5
    obtain ⟨b, off, rfl, -, hbl, hc⟩ := h4 h0
    obtain ⟨v', w', q1, q2, q3, -, q5⟩ := run_append_own_at (P := P) w base t ty e i (.string ⟨#[]⟩) 1 16 ht hi hz hz1 hz2 rfl (by decide) _ 0 [] hown ⟨b, off, none⟩ l.length cap (l.map Value.string) (by simp)
      (fun j u hj => by rw [Addr.add_lit]; exact hc j u hj) (fun u hu => by obtain ⟨s, -, rfl⟩ := List.mem_map.1 hu; rfl) (by unfold maxLen; omega) (by omega) (by omega)
    exact ⟨v', w', q1, by simpa using q2, q3, q5⟩
theorem step_texts {w : World} {ops : Array Oper} {o : Oper} {a : Act} {K : Act → World → Prop} {Q : Exit → Act → World → Prop} {E : Prop} {t e : TypeId} {i : TypeInfo} {G base : Nat} {l : List ByteArray} {A : Option Addr} {cap : Nat}
    (hG : w.heap[G]? = some (.cells #[] e (0, 0))) (hb : base ≤ G) (hx : D.At w anyB (strs l) (.slice A l.length cap)) (hl : l.length ≤ 4194304) (s x : Operand)
    (ht : P.underlying t = some (.slice e)) (hi : P.info? e = some i) (hz : i.zero = some (.string ⟨#[]⟩)) (hz1 : i.size = 1) (hz2 : i.bytes = 16)
    (h : ∀ v' w', w'.ownsRow base e 1 v' l.length (l.map Value.string) → w.grownBy w' (some G) → (v'.ownBlock = some G ∨ v'.ownBlock = some w.heap.size) → K (a.put o.dst v') w')
    (hgd : o.guard = none := by exact rfl) (ho : o.op = .call { callee := .builtin .append, args := #[s, x], argTypes := #[t, t] } := by exact rfl)
    (hs : a.eval s = .slice (some ⟨G, 0, none⟩) 0 0 := by simp [Act.eval, Act.put]) (hx' : a.eval x = .slice A l.length cap := by simp [Act.eval, Act.put]) :
    if Region.wanted o (yielded ops a.tmps) = true then Oper.wp P o a w K Q else E := by
  have hw : Region.wanted o (yielded ops a.tmps) = true := by simp [Region.wanted, hgd]
  rw [if_pos hw]
  obtain ⟨v', w', hr', h2, h3, h4⟩ := run_texts (P := P) w (ty := o.type) ht hi hz hz1 hz2 hG hb hx hl
  unfold Oper.wp execOp
  simp only [ho, resolve, invoke, builtin, Sem.run_bind, Sem.run_pure, Result.andThen_ok, List.map_toArray, List.map_cons, List.map_nil, hs, hx', hr']
  exact h v' w' h2 h3 h4
end
end Go.Proofs.Ytnfkdncfbojiiaa
