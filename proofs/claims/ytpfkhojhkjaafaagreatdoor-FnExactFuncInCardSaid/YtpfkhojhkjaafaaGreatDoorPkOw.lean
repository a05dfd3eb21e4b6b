/- A row that the call owns, of elements whose slices lie each in a block of its own; append of one such element to it. Append of a row of texts to a new empty row; what comes of it lies in a block of its own. Copies of a type, every slice of it in a block of its own: by the reference. Copies of a function's type, every slice of it in a block of its own: words for both sides. A copy of a function's type: by the reference. termOf: the program's copy of a type as a term. A copy of a type, by the program: every slice of it in a block of its own. A copy of a function's type: by the program. -/
import Derived.Test.YtpfkhojhkjaafaaGreatDoorSepIn
import Derived.Maps.AppendAt
import Derived.Deep.Upon
import Derived.Test.YtpfkhojhkjaafaaGreatDoorCore
import Derived.Test.YtpfkhojhkjaafaaGreatDoorTyM
import Derived.Deep.RegionLaw
import Derived.Deep.RegionHeld3
import Derived.Deep.DeepCutAuto
import Derived.Test.YtpfkhojhkjaafaaGreatDoorShelf
namespace Go.Proofs.YtpfkhojhkjaafaaGreatDoor
open Go.RowKit

section
variable {w w' : World} {base : Nat} {e : TypeId} {size : Nat} {v : Value} {n : Nat} {xs : List Value} {ds : List D}
theorem own_keep (h : w.ownsRow base e size v n xs) (hk : ∀ b, base ≤ b → b < w.heap.size → w'.heap[b]? = w.heap[b]?) : w'.ownsRow base e size v n xs := by
  refine ⟨h.1, ?_⟩
  rcases h.2 with h | ⟨g, cap, cur, rfl, hb, hg, r⟩
  · exact .inl h
  · exact .inr ⟨g, cap, cur, rfl, hb, (hk g hb (Array.getElem?_eq_some_iff.1 hg).1).trans hg, r⟩
def OwnP (w : World) (base : Nat) (e : TypeId) (size : Nat) (v : Value) (n : Nat) (ds : List D) : Prop :=
  base ≤ w.heap.size ∧ ∃ xs l, w.ownsRow base e size v n xs ∧ D.Seps w ds l xs ∧ l.Nodup ∧ ∀ b ∈ l, base ≤ b ∧ b < w.heap.size ∧ v.ownBlock ≠ some b
theorem OwnP.nil (h : base ≤ w.heap.size) : OwnP w base e size (.slice none 0 0) 0 [] := ⟨h, [], [], World.ownsRow_nil _ _ _ _, D.Seps.nil, List.nodup_nil, fun b hb => by cases hb⟩
theorem OwnP.keep (h : OwnP w base e size v n ds) (hs : w.heap.size ≤ w'.heap.size) (hk : ∀ b, base ≤ b → b < w.heap.size → w'.heap[b]? = w.heap[b]?) : OwnP w' base e size v n ds := by
  obtain ⟨h0, xs, l, h1, h2, h3, h4⟩ := h
  exact ⟨Nat.le_trans h0 hs, xs, l, own_keep h1 hk, D.Seps.keep ds l xs (fun b hb => hk b (h4 b hb).1 (h4 b hb).2.1) h2, h3, fun b hb => ⟨(h4 b hb).1, Nat.lt_of_lt_of_le (h4 b hb).2.1 hs, (h4 b hb).2.2⟩⟩
theorem OwnP.below (h : OwnP w base e size v n ds) (hb : Below w.heap.size w w') : OwnP w' base e size v n ds := h.keep hb.size (fun b _ hlt => hb.block b hlt)
theorem OwnP.set (h : OwnP w base e size v n ds) {p : Addr} (hp : p.block < base) (u : Value) : OwnP (w.setCell p u) base e size v n ds :=
  h.keep (by simp [World.setCell]) (fun b hb _ => Below.heap_setCell _ _ _ _ (by omega))
theorem OwnP.drew (h : OwnP w base e size v n ds) : OwnP w.drew base e size v n ds := OwnP.keep (w := w) (w' := w.drew) h (Nat.le_refl _) (fun _ _ _ => rfl)
theorem OwnP.base_le (h : OwnP w base e size v n ds) : base ≤ w.heap.size := h.1
theorem OwnP.form (h : OwnP w base e size v n ds) : ∃ A c, v = .slice A n c := by
  obtain ⟨_, xs, l, h1, -⟩ := h
  rcases h1.2 with ⟨rfl, rfl⟩ | ⟨g, cap, cur, rfl, -⟩
  · exact ⟨_, _, rfl⟩
  · exact ⟨_, _, rfl⟩
theorem OwnP.done (h : OwnP w base e size v n ds) (hds : n = 0 → ds = []) : SepIn w base w.heap.size (.sl n size ds) v := by
  obtain ⟨h0, xs, l, h1, h2, h3, h4⟩ := h
  rcases Nat.eq_zero_or_pos n with hn | hn
  · subst hn
    have := hds rfl
    subst this
    rcases h1.2 with ⟨rfl, -⟩ | ⟨g, cap, cur, rfl, -, -, -, hm, -⟩
    · exact ⟨h0, [], D.Sep.empty (Nat.zero_le _), List.nodup_nil, fun b hb => by cases hb⟩
    · exact ⟨h0, [], D.Sep.empty hm, List.nodup_nil, fun b hb => by cases hb⟩
  · obtain ⟨g, hg, hs⟩ := D.Sep.of_own h1 h2 hn
    have hlt := h1.lt g hg
    refine ⟨h0, g :: l, hs, List.nodup_cons.2 ⟨fun hm => (h4 g hm).2.2 hg, h3⟩, fun b hb => ?_⟩
    rcases List.mem_cons.1 hb with rfl | hb
    · exact hlt
    · exact ⟨(h4 b hb).1, (h4 b hb).2.1⟩
end
theorem OwnP.next {w0 w1 wa w2 : World} {base : Nat} {e : TypeId} {size n m : Nat} {v v' : Value} {xs vs : List Value} {ds es : List D} {l : List Nat} (h0 : base ≤ w0.heap.size) (h1 : w0.ownsRow base e size v n xs) (h2 : D.Seps w0 ds l xs) (h3 : l.Nodup)
    (h4 : ∀ b ∈ l, base ≤ b ∧ b < w0.heap.size ∧ v.ownBlock ≠ some b) (hb : Below w0.heap.size w0 w1) (hr : SepsIn w1 w0.heap.size w1.heap.size es vs) (ha : Below w1.heap.size w1 wa)
    (ho : w2.ownsRow base e size v' m (xs ++ vs)) (hg : wa.grownBy w2 v.ownBlock) (hat : v'.ownBlock = v.ownBlock ∨ v'.ownBlock = some wa.heap.size) : OwnP w2 base e size v' m (ds ++ es) := by
  obtain ⟨-, l', k1, k2, k3⟩ := hr
  have s1 := hb.size
  have s2 := ha.size
  have s3 := hg.size
  have q1 : ∀ b ∈ l, w2.heap[b]? = w0.heap[b]? := fun b hm => by
    obtain ⟨_, g2, g3⟩ := h4 b hm
    rw [hg.block b (by omega) (fun e => g3 e.symm), ha.block b (by omega), hb.block b g2]
  have q2 : ∀ b ∈ l', w2.heap[b]? = w1.heap[b]? := fun b hm => by
    obtain ⟨g1, g2⟩ := k3 b hm
    rw [hg.block b (by omega) (fun e => by have := (h1.lt b e.symm).2; omega), ha.block b g2]
  refine ⟨by omega, xs ++ vs, l ++ l', ho, (D.Seps.keep ds l xs q1 h2).append (D.Seps.keep es l' vs q2 k1), List.nodup_append.2 ⟨h3, k2, fun a ha' b hb' e => ?_⟩, fun b hm => ?_⟩
  · have := (h4 a ha').2.1; have := (k3 b hb').1; omega
  · rcases List.mem_append.1 hm with hm | hm
    · obtain ⟨g1, g2, g3⟩ := h4 b hm
      refine ⟨g1, by omega, fun e => ?_⟩
      rcases hat with h | h
      · exact g3 (h ▸ e)
      · rw [h] at e; injection e with e; omega
    · obtain ⟨g1, g2⟩ := k3 b hm
      refine ⟨by omega, by omega, fun e => ?_⟩
      rcases hat with h | h
      · have := (h1.lt b (h ▸ e)).2; omega
      · rw [h] at e; injection e with e; omega
section
variable {P : Program}
/-- Append of one element of four cells, just laid in a block of its own, to such a row: what comes back. -/
theorem run_ownP {w0 w1 : World} {base : Nat} {e t ty : TypeId} {size bytes n : Nat} {v : Value} {vs : List Value} {ds es : List D} {i : TypeInfo} {z : Value} {fz : Nat × Nat} (ht : P.underlying t = some (.slice e)) (hi : P.info? e = some i) (hz : i.zero = some z)
    (hsize : i.size = size) (hby : i.bytes = bytes) (hzs : z.cells.size = size) (hsz : 0 < size) (hp : OwnP w0 base e size v n ds) (hb : Below w0.heap.size w0 w1) (hr : SepsIn w1 w0.heap.size w1.heap.size es vs)
    (hl : vs.length = size) (h1 : ∀ u ∈ vs, u.oneCell' = true) (h63 : n + 1 ≤ maxLen) (hbytes : (n + 1) * bytes ≤ 140737488355328) :
    ∃ v' w', (Builtin.append_ #[t, t] ty #[v, .slice (some ⟨w1.heap.size, 0, none⟩) 1 1]).run P (w1.alloc (.cells vs.toArray e fz)) = .ok v' w' ∧ OwnP w' base e size v' (n + 1) (ds ++ es) ∧ Below base w0 w' := by
  obtain ⟨h0, xs, l, g1, g2, g3, g4⟩ := hp
  have s1 := hb.size
  have ha : Below w1.heap.size w1 (w1.alloc (.cells vs.toArray e fz)) := (Below.refl _ _).alloc (Nat.le_refl _) _
  have hown : (w1.alloc (.cells vs.toArray e fz)).ownsRow base e size v n xs := own_keep g1 (fun b _ hlt => by rw [ha.block b (by omega), hb.block b hlt])
  obtain ⟨v', w', q1, q2, q3, -, q5⟩ := run_append_own_at (P := P) (w1.alloc (.cells vs.toArray e fz)) base t ty e i z size bytes ht hi hz hsize hby hzs hsz v n xs hown ⟨w1.heap.size, 0, none⟩ 1 1 vs (by rw [hl, Nat.one_mul])
    (fun j u hj => by rw [Addr.add_lit, cell_of_row _ _ _ _ _ _ (heap_alloc_new w1 _)]; simpa using hj) h1 h63 hbytes (by simp; omega)
  exact ⟨v', w', q1, OwnP.next h0 g1 g2 g3 g4 hb hr ha q2 q3 q5, ((hb.mono h0).trans (ha.mono (by omega))).grown q3 (by simp; omega) (fun k hk => (g1.lt k hk).1)⟩
/-- The same as one step of a region that draws its order. -/
theorem step_ownP {w0 w1 : World} {ops : Array Oper} {o : Oper} {a : Act} {K : Act → World → Prop} {Q : Exit → Act → World → Prop} {E : Prop} {base : Nat} {e t : TypeId} {size bytes n : Nat} {v : Value} {vs : List Value} {ds es : List D} {i : TypeInfo} {z : Value} {fz : Nat × Nat}
    (hp : OwnP w0 base e size v n ds) (hb : Below w0.heap.size w0 w1) (hr : SepsIn w1 w0.heap.size w1.heap.size es vs) (s x : Operand) (ht : P.underlying t = some (.slice e)) (hi : P.info? e = some i) (hz : i.zero = some z)
    (hsize : i.size = size) (hby : i.bytes = bytes) (hzs : z.cells.size = size) (hsz : 0 < size)
    (hl : vs.length = size) (h1 : ∀ u ∈ vs, u.oneCell' = true) (h63 : n + 1 ≤ maxLen) (hbytes : (n + 1) * bytes ≤ 140737488355328)
    (h : ∀ v' w', OwnP w' base e size v' (n + 1) (ds ++ es) → Below base w0 w' → K (a.put o.dst v') w')
    (hgd : o.guard = none := by exact rfl) (ho : o.op = .call { callee := .builtin .append, args := #[s, x], argTypes := #[t, t] } := by exact rfl)
    (hs : a.eval s = v := by simp [Act.eval, Act.put]) (hx : a.eval x = .slice (some ⟨w1.heap.size, 0, none⟩) 1 1 := by simp [Act.eval, Act.put]) :
    if Region.wanted o (yielded ops a.tmps) = true then Oper.wp P o a (w1.alloc (.cells vs.toArray e fz)) K Q else E := by
  have hw : Region.wanted o (yielded ops a.tmps) = true := by simp [Region.wanted, hgd]
  rw [if_pos hw]
  obtain ⟨v', w', hr', h2, h3⟩ := run_ownP (P := P) (ty := o.type) (fz := fz) ht hi hz hsize hby hzs hsz hp hb hr hl h1 h63 hbytes
  unfold Oper.wp execOp
  simp only [ho, resolve, invoke, builtin, Sem.run_bind, Sem.run_pure, Result.andThen_ok, List.map_toArray, List.map_cons, List.map_nil, hs, hx, hr']
  exact h v' w' h2 h3
theorem wpList_ownP {w0 w1 : World} {ops : Array Oper} {rest : List Oper} {o : Oper} {a : Act} {Q : Exit → Act → World → Prop} {base : Nat} {e t : TypeId} {size bytes n : Nat} {v : Value} {vs : List Value} {ds es : List D} {i : TypeInfo} {z : Value} {fz : Nat × Nat}
    (hp : OwnP w0 base e size v n ds) (hb : Below w0.heap.size w0 w1) (hr : SepsIn w1 w0.heap.size w1.heap.size es vs) (s x : Operand) (ht : P.underlying t = some (.slice e)) (hi : P.info? e = some i) (hz : i.zero = some z)
    (hsize : i.size = size) (hby : i.bytes = bytes) (hzs : z.cells.size = size) (hsz : 0 < size)
    (hl : vs.length = size) (h1 : ∀ u ∈ vs, u.oneCell' = true) (h63 : n + 1 ≤ maxLen) (hbytes : (n + 1) * bytes ≤ 140737488355328)
    (h : ∀ v' w', OwnP w' base e size v' (n + 1) (ds ++ es) → Below base w0 w' → wpList P ops Q rest (a.put o.dst v') w')
    (hgd : o.guard = none := by exact rfl) (ho : o.op = .call { callee := .builtin .append, args := #[s, x], argTypes := #[t, t] } := by exact rfl)
    (hs : a.eval s = v := by exact rfl) (hx : a.eval x = .slice (some ⟨w1.heap.size, 0, none⟩) 1 1 := by exact rfl) :
    wpList P ops Q (o :: rest) a (w1.alloc (.cells vs.toArray e fz)) := by
  refine wpList_plain hgd fun K hK => ?_
  obtain ⟨v', w', hr', h2, h3⟩ := run_ownP (P := P) (ty := o.type) (fz := fz) ht hi hz hsize hby hzs hsz hp hb hr hl h1 h63 hbytes
  unfold Oper.wp execOp
  simp only [ho, resolve, invoke, builtin, Sem.run_bind, Sem.run_pure, Result.andThen_ok, List.map_toArray, List.map_cons, List.map_nil, hs, hx, hr']
  exact hK _ _ (h v' w' h2 h3)
end
end Go.Proofs.YtpfkhojhkjaafaaGreatDoor
namespace Go.Proofs.YtpfkhojhkjaafaaGreatDoor
open Go.RowKit

theorem strs_xs {w : World} {S : Nat → Prop} {l : List ByteArray} {xs : List Value} (h : D.Ats w S (l.flatMap strD) xs) : xs = l.map Value.string ∧ ∀ s ∈ l, s.size ≤ maxLen := by
  induction l generalizing xs with
  | nil => simp only [List.flatMap_nil, D.Ats] at h; exact ⟨h, fun s hs => by cases hs⟩
  | cons s r ih =>
    rw [List.flatMap_cons] at h
    obtain ⟨vs, rfl, h1, h2⟩ := D.Ats.str_cell (r := r.flatMap strD) h
    obtain ⟨rfl, h3⟩ := ih h2
    refine ⟨rfl, fun x hx => ?_⟩
    rcases List.mem_cons.1 hx with rfl | hx
    · exact h1
    · exact h3 x hx
theorem seps_texts {l : List ByteArray} (hs : ∀ s ∈ l, s.size ≤ maxLen) (w : World) : D.Seps w (l.flatMap strD) [] (l.map Value.string) := by
  induction l with
  | nil => exact D.Seps.nil
  | cons s r ih => exact D.Seps.append (l1 := []) (l2 := []) (D.Seps.cons (l1 := []) (l2 := []) (D.Sep.str_ (hs s (by simp)) w) D.Seps.nil) (ih (fun x hx => hs x (by simp [hx])))
theorem own_slice {w : World} {base size n : Nat} {e : TypeId} {v : Value} {xs : List Value} (ho : w.ownsRow base e size v n xs) : ∃ A c, v = .slice A n c := by
  rcases ho.2 with ⟨rfl, rfl⟩ | ⟨g, cap, cur, rfl, -⟩
  · exact ⟨_, _, rfl⟩
  · exact ⟨_, _, rfl⟩
/-- An owned row of texts is one block, or none. -/
theorem own_texts {w : World} {base : Nat} {e : TypeId} {v : Value} {l : List ByteArray} (ho : w.ownsRow base e 1 v l.length (l.map Value.string)) (hs : ∀ s ∈ l, s.size ≤ maxLen) (hl : l.length ≤ maxLen) :
    ∃ bl, D.Sep w (strs l) bl v ∧ bl.Nodup ∧ ∀ b ∈ bl, v.ownBlock = some b ∧ base ≤ b ∧ b < w.heap.size := by
  have hS := seps_texts hs w
  rcases Nat.eq_zero_or_pos l.length with h0 | h0
  · have hR : l = [] := List.eq_nil_of_length_eq_zero h0
    subst hR
    rcases ho.2 with ⟨rfl, -⟩ | ⟨g, cap, cur, rfl, -, -, -, hm, -⟩
    · exact ⟨[], D.Sep.empty (Nat.zero_le _), List.nodup_nil, fun b hb => by cases hb⟩
    · exact ⟨[], D.Sep.empty hm, List.nodup_nil, fun b hb => by cases hb⟩
  · obtain ⟨g, hg, h⟩ := D.Sep.of_own ho hS h0
    have hlt := ho.lt g hg
    exact ⟨[g], h, by simp, fun b hb => by simp at hb; subst hb; exact ⟨hg, hlt⟩⟩
theorem own_textsIn {w : World} {base : Nat} {e : TypeId} {v : Value} {l : List ByteArray} (ho : w.ownsRow base e 1 v l.length (l.map Value.string)) (hs : ∀ s ∈ l, s.size ≤ maxLen) (hl : l.length ≤ maxLen) (hb : base ≤ w.heap.size) : SepIn w base w.heap.size (strs l) v := by
  obtain ⟨bl, h1, h2, h3⟩ := own_texts ho hs hl
  exact ⟨hb, bl, h1, h2, fun b hm => (h3 b hm).2⟩
section
variable {P : Program}
theorem run_texts (w : World) {t ty e : TypeId} {i : TypeInfo} (ht : P.underlying t = some (.slice e)) (hi : P.info? e = some i) (hz : i.zero = some (.string ⟨#[]⟩)) (hz1 : i.size = 1) (hz2 : i.bytes = 16) {G base : Nat} (hG : w.heap[G]? = some (.cells #[] e (0, 0))) (hb : base ≤ G)
    {l : List ByteArray} {A : Option Addr} {cap : Nat} (hx : D.At w anyB (strs l) (.slice A l.length cap)) (hl : l.length ≤ 4194304) :
    ∃ v' w', (Builtin.append_ #[t, t] ty #[.slice (some ⟨G, 0, none⟩) 0 0, .slice A l.length cap]).run P w = .ok v' w' ∧ w'.ownsRow base e 1 v' l.length (l.map Value.string) ∧ w.grownBy w' (some G) ∧ (v'.ownBlock = some G ∨ v'.ownBlock = some w.heap.size) := by
  have hGl : G < w.heap.size := (Array.getElem?_eq_some_iff.1 hG).1
  have hown : w.ownsRow base e 1 (.slice (some ⟨G, 0, none⟩) 0 0) 0 [] := ⟨rfl, .inr ⟨G, 0, #[], rfl, hb, hG, Nat.le_refl _, Nat.zero_le _, rfl, rfl⟩⟩
  rcases Nat.eq_zero_or_pos l.length with h0 | h0
  · have hR : l = [] := List.eq_nil_of_length_eq_zero h0
    subst hR
    have hs : Src P i.size t (.slice A 0 cap) 0 [] w := by
      unfold strs rows at hx
      simp only [D.At] at hx
      cases A with
      | none => exact Src.ofNil w ht cap
      | some a => exact Src.ofSlice w ht a 0 cap [] (by simp) (fun j u h => by simp at h) (fun u hu => by cases hu)
    exact ⟨_, w, run_append_nothing w t t ty e i ht hi _ 0 0 (Nat.le_refl _) _ hs, hown, ⟨rfl, rfl, rfl, Nat.le_refl _, fun _ _ _ => rfl⟩, .inl rfl⟩
  · unfold strs rows at hx
    simp only [D.At] at hx
    obtain ⟨A', cap', xs, hv, h1, h2, h3, h4, h5⟩ := hx
    injection hv with e1 e2 e3
    subst e1 e3
    obtain ⟨rfl, -⟩ := strs_xs h5
    obtain ⟨b, off, rfl, -, hbl, hc⟩ := h4 h0
    obtain ⟨v', w', q1, q2, q3, -, q5⟩ := run_append_own_at (P := P) w base t ty e i (.string ⟨#[]⟩) 1 16 ht hi hz hz1 hz2 rfl (by decide) _ 0 [] hown ⟨b, off, none⟩ l.length cap (l.map Value.string) (by simp)
      (fun j u hj => by rw [Addr.add_lit]; exact hc j u hj) (fun u hu => by obtain ⟨s, -, rfl⟩ := List.mem_map.1 hu; rfl) (by unfold maxLen; omega) (by omega) (by omega)
    exact ⟨v', w', q1, by simpa using q2, q3, q5⟩
theorem step_texts {w : World} {ops : Array Oper} {o : Oper} {a : Act} {K : Act → World → Prop} {Q : Exit → Act → World → Prop} {E : Prop} {t e : TypeId} {i : TypeInfo} {G base : Nat} {l : List ByteArray} {A : Option Addr} {cap : Nat}
    (hG : w.heap[G]? = some (.cells #[] e (0, 0))) (hb : base ≤ G) (hx : D.At w anyB (strs l) (.slice A l.length cap)) (hl : l.length ≤ 4194304) (s x : Operand)
    (ht : P.underlying t = some (.slice e)) (hi : P.info? e = some i) (hz : i.zero = some (.string ⟨#[]⟩)) (hz1 : i.size = 1) (hz2 : i.bytes = 16)
    (h : ∀ v' w', w'.ownsRow base e 1 v' l.length (l.map Value.string) → w.grownBy w' (some G) → (v'.ownBlock = some G ∨ v'.ownBlock = some w.heap.size) → K (a.put o.dst v') w')
    (hgd : o.guard = none := by exact rfl) (ho : o.op = .call { callee := .builtin .append, args := #[s, x], argTypes := #[t, t] } := by exact rfl)
    (hs : a.eval s = .slice (some ⟨G, 0, none⟩) 0 0 := by simp [Act.eval, Act.put]) (hx' : a.eval x = .slice A l.length cap := by simp [Act.eval, Act.put]) :
    if Region.wanted o (yielded ops a.tmps) = true then Oper.wp P o a w K Q else E := by
  have hw : Region.wanted o (yielded ops a.tmps) = true := by simp [Region.wanted, hgd]
  rw [if_pos hw]
  obtain ⟨v', w', hr', h2, h3, h4⟩ := run_texts (P := P) w (ty := o.type) ht hi hz hz1 hz2 hG hb hx hl
  unfold Oper.wp execOp
  simp only [ho, resolve, invoke, builtin, Sem.run_bind, Sem.run_pure, Result.andThen_ok, List.map_toArray, List.map_cons, List.map_nil, hs, hx', hr']
  exact h v' w' h2 h3 h4
end
end Go.Proofs.YtpfkhojhkjaafaaGreatDoor
namespace Go.Proofs.YtpfkhojhkjaafaaGreatDoor
open Go.RowKit

/-- A function hands back a copy of a type, every slice of it in a block of its own. -/
def OwnTo (F : FuncId) (x : Ty) : Prop := ∀ (cs : List Value) (w : World), D.Ats w anyB x.ds cs → D.totals x.ds ≤ 4194304 → Calls Tryz.prog F #[.agg cs.toArray] w (RetSs x.ds w)
theorem own_sizes {k : Int} {n : ByteArray} {l : List ByteArray} {kids : List Ty} (h : D.totals (Ty.ds (.mk k n l kids)) ≤ 4194304) : l.length ≤ 4194304 ∧ kids.length ≤ 4194304 ∧ ∀ x ∈ kids, D.totals x.ds ≤ 4194304 := by
  have e : D.totals (Ty.ds (.mk k n l kids)) = n.size + ((strs l).total + ((rows Ty.ds 4 kids).total + 0)) := by rw [Ty.ds_eq]; simp [D.totals, D.total]
  have e1 : (strs l).total = l.length + D.totals (l.flatMap strD) := rows_total ..
  have e2 : (rows Ty.ds 4 kids).total = kids.length + D.totals (kids.flatMap Ty.ds) := rows_total ..
  refine ⟨by omega, by omega, fun x hx => ?_⟩
  have := totals_mem (f := Ty.ds) hx
  omega
theorem box_grown {w w' : World} {g G : Nat} {t : TypeId} {cs : List Value} (h : Box w g t cs) (hg : w.grownBy w' (some G)) (hne : g ≠ G) : Box w' g t cs := (hg.block g h.lt (by simpa using hne)).trans h
theorem below_grown {B G : Nat} {w0 W w' : World} (m : Below B w0 W) (hg : W.grownBy w' (some G)) (hG : B ≤ G) (hB : B ≤ W.heap.size) : Below B w0 w' := m.grown hg hB (fun k hk => by cases hk; exact hG)
theorem keep3 {w0 W : World} {h : Nat} {a b c : Value} (zA : h < w0.heap.size) (e1 : w0.cell? ⟨h, 0, none⟩ = some a) (e2 : w0.cell? ⟨h, 1, none⟩ = some b) (e3 : w0.cell? ⟨h, 2, none⟩ = some c)
    (G : Below w0.heap.size w0 W) : W.cell? ⟨h, 0, none⟩ = some a ∧ W.cell? ⟨h, 1, none⟩ = some b ∧ W.cell? ⟨h, 2, none⟩ = some c :=
  ⟨(G.cell (p := ⟨h, 0, none⟩) zA).trans e1, (G.cell (p := ⟨h, 1, none⟩) zA).trans e2, (G.cell (p := ⟨h, 2, none⟩) zA).trans e3⟩
/-- Behind the first statement: the labels' row apart from the block that holds it. -/
theorem own_cutA {w0 w' wx : World} {l : List ByteArray} {v : Value} {g B : Nat} (h : ∃ bl, D.Sep w' (strs l) bl v ∧ bl.Nodup ∧ ∀ b ∈ bl, v.ownBlock = some b ∧ B ≤ b ∧ b < w'.heap.size) (_hb : Below B w0 w') (hne : v.ownBlock ≠ some g)
    (hk : ∀ b, b ≠ g → b < w'.heap.size → wx.heap[b]? = w'.heap[b]?) (hs : w'.heap.size ≤ wx.heap.size) : ∃ bl, D.Sep wx (strs l) bl v ∧ bl.Nodup ∧ ∀ b ∈ bl, B ≤ b ∧ b < wx.heap.size ∧ b ≠ g := by
  obtain ⟨bl, h1, h2, h3⟩ := h
  have hg : ∀ b ∈ bl, b ≠ g := fun b hb e => hne (e ▸ (h3 b hb).1)
  exact ⟨bl, D.Sep.keep _ _ _ (fun b hb => hk b (hg b hb) (h3 b hb).2.2) h1, h2, fun b hb => ⟨(h3 b hb).2.1, Nat.lt_of_lt_of_le (h3 b hb).2.2 hs, hg b hb⟩⟩
theorem own_ne {v : Value} {g G H : Nat} (h : v.ownBlock = some G ∨ v.ownBlock = some H) (h1 : G ≠ g) (h2 : H ≠ g) : v.ownBlock ≠ some g := by
  intro e
  rcases h with h | h
  · rw [h] at e; injection e with e; exact h1 e
  · rw [h] at e; injection e with e; exact h2 e
theorem strs_small {w : World} {S : Nat → Prop} {l : List ByteArray} {v : Value} (h : D.At w S (strs l) v) : ∀ s ∈ l, s.size ≤ maxLen := by
  unfold strs rows at h
  simp only [D.At] at h
  obtain ⟨A, cap, xs, -, -, -, -, -, h5⟩ := h
  exact (strs_xs h5).2
theorem at_world {P : Program} {ops : Array Oper} {o : Oper} {a : Act} {K : Act → World → Prop} {Q : Exit → Act → World → Prop} {E : Prop} (W : World) (h : if Region.wanted o (yielded ops a.tmps) = true then Oper.wp P o a W K Q else E) : if Region.wanted o (yielded ops a.tmps) = true then Oper.wp P o a W K Q else E := h
theorem own_cutB {w0 w' : World} {g : Nat} {t : TypeId} {a b c d a' b' c' d' : Value} {l : List ByteArray} {B : Nat} (hz : Box w' g t [a', b', c', d']) (h : ∃ bl, D.Sep w' (strs l) bl c ∧ bl.Nodup ∧ ∀ b ∈ bl, c.ownBlock = some b ∧ B ≤ b ∧ b < w'.heap.size) (hb : Below B w0 w') (hg : B ≤ g) (hne : c.ownBlock ≠ some g) :
    B ≤ g ∧ Box ((((w'.setCell ⟨g, 0, none⟩ a).setCell ⟨g, 1, none⟩ b).setCell ⟨g, 2, none⟩ c).setCell ⟨g, 3, none⟩ d) g t [a, b, c, d] ∧
      (∃ bl, D.Sep ((((w'.setCell ⟨g, 0, none⟩ a).setCell ⟨g, 1, none⟩ b).setCell ⟨g, 2, none⟩ c).setCell ⟨g, 3, none⟩ d) (strs l) bl c ∧ bl.Nodup ∧ ∀ x ∈ bl, B ≤ x ∧ x < ((((w'.setCell ⟨g, 0, none⟩ a).setCell ⟨g, 1, none⟩ b).setCell ⟨g, 2, none⟩ c).setCell ⟨g, 3, none⟩ d).heap.size ∧ x ≠ g) ∧
      Below B w0 ((((w'.setCell ⟨g, 0, none⟩ a).setCell ⟨g, 1, none⟩ b).setCell ⟨g, 2, none⟩ c).setCell ⟨g, 3, none⟩ d) :=
  ⟨hg, (((hz.set 0 a).set 1 b).set 2 c).set 3 d, own_cutA h hb hne (fun x hx _ => by rw [Below.heap_setCell _ _ _ _ hx, Below.heap_setCell _ _ _ _ hx, Below.heap_setCell _ _ _ _ hx, Below.heap_setCell _ _ _ _ hx]) (by simp [World.setCell]),
    (((hb.setCell hg _).setCell hg _).setCell hg _).setCell hg _⟩
theorem own_cutC {w0 w' : World} {t : TypeId} {a b c d : Value} {l : List ByteArray} {B : Nat} (h : ∃ bl, D.Sep w' (strs l) bl c ∧ bl.Nodup ∧ ∀ b ∈ bl, c.ownBlock = some b ∧ B ≤ b ∧ b < w'.heap.size) (hb : Below B w0 w') (hne : c.ownBlock ≠ some w'.heap.size) (hB : B ≤ w'.heap.size) :
    B ≤ w'.heap.size ∧ Box (w'.alloc (.cells #[a, b, c, d] t)) w'.heap.size t [a, b, c, d] ∧
      (∃ bl, D.Sep (w'.alloc (.cells #[a, b, c, d] t)) (strs l) bl c ∧ bl.Nodup ∧ ∀ x ∈ bl, B ≤ x ∧ x < (w'.alloc (.cells #[a, b, c, d] t)).heap.size ∧ x ≠ w'.heap.size) ∧ Below B w0 (w'.alloc (.cells #[a, b, c, d] t)) :=
  ⟨hB, Box.new w' t [a, b, c, d], own_cutA h hb hne (fun x _ hx => Below.heap_alloc w' _ x hx) (by simp), hb.alloc hB _⟩
/-- Behind the loop: the parts of the copy, one behind the other. -/
theorem own_end {w w' : World} {h : Nat} {k : Int} {n : ByteArray} {l : List ByteArray} {kids : List Ty} {vL vK : Value} {bl : List Nat} {B : Nat} (hk : -9223372036854775808 ≤ k ∧ k ≤ 9223372036854775807) (hn : n.size ≤ maxLen) (hL : D.Sep w (strs l) bl vL) (hd : bl.Nodup) (hb : ∀ b ∈ bl, h ≤ b ∧ b < B)
    (hB : h ≤ B) (hK : SepIn w B w.heap.size (rows Ty.ds 4 kids) vK) (hw : w'.heap.size = w.heap.size) (hkeep : ∀ b, (b ∈ bl ∨ B ≤ b) → w'.heap[b]? = w.heap[b]?) : SepsIn w' h w'.heap.size (Ty.ds (.mk k n l kids)) [.int .i64 k, .string n, vL, vK] := by
  have hL' : SepIn w' h B (strs l) vL := ⟨hB, bl, D.Sep.keep _ _ _ (fun b hm => hkeep b (.inl hm)) hL, hd, hb⟩
  have hK' : SepIn w' B w'.heap.size (rows Ty.ds 4 kids) vK := by
    rw [hw]
    exact hK.keep (fun b h1 _ => hkeep b (.inr h1))
  rw [Ty.ds_eq]
  exact SepsIn.cons (SepIn.int hk) (SepsIn.cons (SepIn.str hn) (SepsIn.cons hL' (SepsIn.cons hK' (SepsIn.nil (Nat.le_refl _)))))
theorem info_tType : (Tryz.prog.info? 30).map (fun i => (i.zero, i.size, i.bytes)) = some (some (.agg #[.int .i64 0, .string ⟨#[]⟩, .slice none 0 0, .slice none 0 0]), 4, 72) := by kernel_rfl
theorem info_sType : (Tryz.prog.info? 9).map (fun i => (i.zero, i.size, i.bytes)) = some (some (.string ⟨#[]⟩), 1, 16) := by kernel_rfl
set_option maxHeartbeats 4000000 in
set_option maxRecDepth 20000 in
theorem l03Own_s (x : Ty) : OwnTo 75 x := by
  refine Ty.ind (fun k n l kids ih => ?_) x
  intro cs w hcs ht
  obtain ⟨A, c, A', c', rfl, hk, hn, hl, hkids⟩ := Ty.open_ hcs
  obtain ⟨-, hnl, hcl⟩ := rows_bound hl
  obtain ⟨-, hnk, hck⟩ := rows_bound hkids
  obtain ⟨hl4, hk4, hkt⟩ := own_sizes ht
  unfold maxLen at hcl hck
  have HK := Lib.hid (And.intro hk (And.intro hn (strs_small hl)))
  have hlm : l.length ≤ maxLen := by unfold maxLen; omega
  have HI := Lib.hid ih
  have HT := Lib.hid hkt
  obtain ⟨i0, hi, hz0, hz1, hz2⟩ := info_parts info_sType
  obtain ⟨j0, hj, hy0, hy1, hy2⟩ := info_parts info_tType
  have HS := Lib.hid (And.intro hi (And.intro hz0 (And.intro hz1 hz2)))
  have HJ := Lib.hid (And.intro hj (And.intro hy0 (And.intro hy1 hy2)))
  obtain ⟨w0, hw0⟩ : ∃ w0, w0 = (w.alloc (.cells #[.int .i64 k, .string n, .slice A l.length c, .slice A' kids.length c'] 30)).alloc (.cells #[.int .i64 0, .string ⟨#[]⟩, .slice none 0 0, .slice none 0 0] 30) := ⟨_, rfl⟩
  have bA : Box w0 w.heap.size 30 [.int .i64 k, .string n, .slice A l.length c, .slice A' kids.length c'] := by rw [hw0]; exact (Box.new w _ _).alloc _
  have bR : Box w0 (w.heap.size + 1) 30 [.int .i64 0, .string ⟨#[]⟩, .slice none 0 0, .slice none 0 0] := by rw [hw0]; have := Box.new (w.alloc (.cells #[.int .i64 k, .string n, .slice A l.length c, .slice A' kids.length c'] 30)) 30 [.int .i64 0, .string ⟨#[]⟩, .slice none 0 0, .slice none 0 0]; simpa using this
  have B0 : Below w.heap.size w w0 := by rw [hw0]; exact ((Below.refl _ _).alloc (Nat.le_refl _) _).alloc (by simp) _
  have hs0 : w0.heap.size = w.heap.size + 2 := by rw [hw0]; simp
  have HL := Lib.hid (D.At.below hl B0)
  have HV := Lib.hid (D.At.below hkids B0)
  have HS0 := Lib.hid hs0
  clear hcs hk hn hl hkids ih ht hkt hi hz0 hz1 hz2 hj hy0 hy1 hy2 hs0
  change Calls Tryz.prog 75 #[.agg #[.int .i64 k, .string n, .slice A l.length c, .slice A' kids.length c']] w _
  have kA := bA.cell
  go_enter Tryz.func75, Tryz.ntmps75
  go_upto_region 1 with fail
  rw [← hw0]
  clear hw0
  have a0 : w0.cell? ⟨w.heap.size, 0, none⟩ = some (.int .i64 k) := kA 0
  have a1 : w0.cell? ⟨w.heap.size, 1, none⟩ = some (.string n) := kA 1
  have a2 : w0.cell? ⟨w.heap.size, 2, none⟩ = some (.slice A l.length c) := kA 2
  clear kA
  have zA := bA.lt
  go_cut [3] (fun s wx => ∃ (g : Nat) (vL : Value), s = .pointer (some ⟨g, 0, none⟩) ∧ w0.heap.size ≤ g ∧ Box wx g 30 [.int .i64 k, .string n, vL, .slice none 0 0] ∧ (∃ bl, D.Sep wx (strs l) bl vL ∧ bl.Nodup ∧ ∀ b ∈ bl, w0.heap.size ≤ b ∧ b < wx.heap.size ∧ b ≠ g) ∧ Below w0.heap.size w0 wx)
  case first =>
    have k0 : (w0.alloc (.cells #[] 9)).drew.heap[w0.heap.size]? = some (.cells #[] 9 (0, 0)) := Box.new w0 9 []
    have k1 : ((w0.alloc (.cells #[] 9)).alloc (.cells #[.int .i64 0, .string ⟨#[]⟩, .slice none 0 0, .slice none 0 0] 30)).drew.heap[w0.heap.size]? = some (.cells #[] 9 (0, 0)) := (Box.new w0 9 []).alloc _
    have k2 : ((w0.alloc (.cells #[.int .i64 0, .string ⟨#[]⟩, .slice none 0 0, .slice none 0 0] 30)).alloc (.cells #[] 9)).drew.heap[w0.heap.size + 1]? = some (.cells #[] 9 (0, 0)) := by
      have h := Box.new (w0.alloc (.cells #[.int .i64 0, .string ⟨#[]⟩, .slice none 0 0, .slice none 0 0] 30)) 9 []
      rw [show (w0.alloc (.cells #[.int .i64 0, .string ⟨#[]⟩, .slice none 0 0, .slice none 0 0] 30)).heap.size = w0.heap.size + 1 by simp] at h
      exact h
    have b1 : Box ((w0.alloc (.cells #[] 9)).alloc (.cells #[.int .i64 0, .string ⟨#[]⟩, .slice none 0 0, .slice none 0 0] 30)).drew (w0.heap.size + 1) 30 [.int .i64 0, .string ⟨#[]⟩, .slice none 0 0, .slice none 0 0] := by
      have h := Box.new (w0.alloc (.cells #[] 9)) 30 [.int .i64 0, .string ⟨#[]⟩, .slice none 0 0, .slice none 0 0]
      rw [show (w0.alloc (.cells #[] 9)).heap.size = w0.heap.size + 1 by simp] at h
      exact h
    have b2 : Box ((w0.alloc (.cells #[.int .i64 0, .string ⟨#[]⟩, .slice none 0 0, .slice none 0 0] 30)).alloc (.cells #[] 9)).drew w0.heap.size 30 [.int .i64 0, .string ⟨#[]⟩, .slice none 0 0, .slice none 0 0] := (Box.new w0 _ [.int .i64 0, .string ⟨#[]⟩, .slice none 0 0, .slice none 0 0]).alloc _
    have m0 : Below w0.heap.size w0 (w0.alloc (.cells #[] 9)).drew := ((Below.refl _ w0).alloc (Nat.le_refl _) _).drew
    have m1 : Below w0.heap.size w0 ((w0.alloc (.cells #[] 9)).alloc (.cells #[.int .i64 0, .string ⟨#[]⟩, .slice none 0 0, .slice none 0 0] 30)).drew := (((Below.refl _ w0).alloc (Nat.le_refl _) _).alloc (by simp) _).drew
    have m2 : Below w0.heap.size w0 ((w0.alloc (.cells #[.int .i64 0, .string ⟨#[]⟩, .slice none 0 0, .slice none 0 0] 30)).alloc (.cells #[] 9)).drew := (((Below.refl _ w0).alloc (Nat.le_refl _) _).alloc (by simp) _).drew
    have m3 : Below w0.heap.size w0 (w0.alloc (.cells #[.int .i64 0, .string ⟨#[]⟩, .slice none 0 0, .slice none 0 0] 30)).drew := ((Below.refl _ w0).alloc (Nat.le_refl _) _).drew
    have x0 := HL.out.below m0
    have x1 := HL.out.below m1
    have x2 := HL.out.below m2
    have K0 : Below w0.heap.size w0 w0.drew := (Below.refl _ w0).drew
    go_region_held3 (fun w' => w'.cell? ⟨w.heap.size, 0, none⟩ = some (.int .i64 k) ∧ w'.cell? ⟨w.heap.size, 1, none⟩ = some (.string n) ∧ w'.cell? ⟨w.heap.size, 2, none⟩ = some (.slice A l.length c))
      (first | with_reducible exact ⟨e0, e1, e2⟩ | ((refine keep3 zA a0 a1 a2 ?_); (repeat (first | with_reducible exact m0 | with_reducible exact m1 | with_reducible exact m2 | with_reducible exact m3 | with_reducible exact bw | with_reducible exact Below.refl _ _ | with_reducible refine Below.drew ?_ | (with_reducible refine Below.setCell ?_ ?_ _; rotate_left; (first | with_reducible exact Nat.le_refl _ | with_reducible exact Nat.le_succ _ | with_reducible exact bw.size | (simp; done))) | (with_reducible refine Below.alloc ?_ ?_ _; rotate_left; (first | with_reducible exact Nat.le_refl _ | with_reducible exact bw.size | (simp; done) | (simp; omega))))); done) | (trace_state; fail))
      (first
      | ((with_reducible refine at_world ((w0.alloc (.cells #[] 9)).drew) ?_); refine step_texts k0 (Nat.le_refl _) x0 hl4 (.tmp 9) (.tmp 11) Tryz.underlying22 HS.out.1 HS.out.2.1 HS.out.2.2.1 HS.out.2.2.2 ?_; intro v' w' ho' hg' hat'; have bw := below_grown m0 hg' (Nat.le_refl _) m0.size; have e0 := (bw.cell (p := ⟨w.heap.size, 0, none⟩) zA).trans a0; have e1 := (bw.cell (p := ⟨w.heap.size, 1, none⟩) zA).trans a1; have e2 := (bw.cell (p := ⟨w.heap.size, 2, none⟩) zA).trans a2; have zB := Nat.lt_of_lt_of_le zA bw.size; obtain ⟨A2, c2, rfl⟩ := own_slice ho')
      | ((with_reducible refine at_world (((w0.alloc (.cells #[] 9)).alloc (.cells #[.int .i64 0, .string ⟨#[]⟩, .slice none 0 0, .slice none 0 0] 30)).drew) ?_); refine step_texts k1 (Nat.le_refl _) x1 hl4 (.tmp 9) (.tmp 11) Tryz.underlying22 HS.out.1 HS.out.2.1 HS.out.2.2.1 HS.out.2.2.2 ?_; intro v' w' ho' hg' hat'; have bw := below_grown m1 hg' (Nat.le_refl _) m1.size; have e0 := (bw.cell (p := ⟨w.heap.size, 0, none⟩) zA).trans a0; have e1 := (bw.cell (p := ⟨w.heap.size, 1, none⟩) zA).trans a1; have e2 := (bw.cell (p := ⟨w.heap.size, 2, none⟩) zA).trans a2; have zB := Nat.lt_of_lt_of_le zA bw.size; obtain ⟨A2, c2, rfl⟩ := own_slice ho'; have bZ := box_grown b1 hg' (Nat.succ_ne_self _); have cz := bZ.cell; have fz := bZ.frozen; have lz := bZ.lt)
      | ((with_reducible refine at_world (((w0.alloc (.cells #[.int .i64 0, .string ⟨#[]⟩, .slice none 0 0, .slice none 0 0] 30)).alloc (.cells #[] 9)).drew) ?_); refine step_texts k2 (Nat.le_succ _) x2 hl4 (.tmp 9) (.tmp 11) Tryz.underlying22 HS.out.1 HS.out.2.1 HS.out.2.2.1 HS.out.2.2.2 ?_; intro v' w' ho' hg' hat'; have bw := below_grown m2 hg' (Nat.le_succ _) m2.size; have e0 := (bw.cell (p := ⟨w.heap.size, 0, none⟩) zA).trans a0; have e1 := (bw.cell (p := ⟨w.heap.size, 1, none⟩) zA).trans a1; have e2 := (bw.cell (p := ⟨w.heap.size, 2, none⟩) zA).trans a2; have zB := Nat.lt_of_lt_of_le zA bw.size; obtain ⟨A2, c2, rfl⟩ := own_slice ho'; have bZ := box_grown b2 hg' (fun e => by omega); have cz := bZ.cell; have fz := bZ.frozen; have lz := bZ.lt))
    all_goals
      go_wp2_with fail
      go_meet
      first
        | (have hz : Box w' (w0.heap.size + 1) 30 [.int .i64 0, .string ⟨#[]⟩, .slice none 0 0, .slice none 0 0] := (by with_reducible exact bZ)
           exact ⟨w0.heap.size + 1, .slice A2 l.length c2, rfl, own_cutB hz (own_texts ho' HK.out.2.2 hlm) bw (Nat.le_succ _) (own_ne hat' (by first | (simp; done) | (simp; omega)) (by first | (simp; done) | (simp; omega)))⟩)
        | (have hz : Box w' w0.heap.size 30 [.int .i64 0, .string ⟨#[]⟩, .slice none 0 0, .slice none 0 0] := (by with_reducible exact bZ)
           exact ⟨w0.heap.size, .slice A2 l.length c2, rfl, own_cutB hz (own_texts ho' HK.out.2.2 hlm) bw (Nat.le_refl _) (own_ne hat' (by first | (simp; done) | (simp; omega)) (by first | (simp; done) | (simp; omega)))⟩)
        | exact ⟨w'.heap.size, .slice A2 l.length c2, rfl, own_cutC (own_texts ho' HK.out.2.2 hlm) bw (fun e => Nat.lt_irrefl _ (ho'.lt _ e).2) bw.size⟩
  case rest =>
    obtain ⟨g, vL, rfl, hg, bG, ⟨bl, sL, nd, hbl⟩, B1⟩ := hcut
    obtain ⟨W1, hW1⟩ : ∃ W1, W1 = wc := ⟨_, rfl⟩
    rw [← hW1] at bG sL hbl B1 ⊢
    clear hW1 a0 a1 a2 zA
    obtain ⟨AL, cL, rfl, -, -, -⟩ := sL.sl_form
    have hs1 := B1.size
    have hgl := bG.lt
    have zA := bA.lt
    have zR := bR.lt
    have HS1 := Lib.hid (And.intro sL (And.intro nd hbl))
    have HB1 := Lib.hid (And.intro B0 (And.intro bA bR))
    have HG := Lib.hid bG
    have HB1' := Lib.hid B1
    have kA1 := (bA.call B1).cell
    have kG1 := bG.cell
    clear sL nd hbl bA bR B0 bG HL B1
    go_wp2
    go_loopw [4] (fun i wr => ∃ (q : Nat) (vK : Value), q ≤ kids.length ∧ i = .int .i64 q ∧ Box wr g 30 [.int .i64 k, .string n, .slice AL l.length cL, vK] ∧ OwnP wr W1.heap.size 30 4 vK q ((kids.take q).flatMap Ty.ds) ∧ (∀ b, b < W1.heap.size → b ≠ g → wr.heap[b]? = W1.heap[b]?) ∧ Below w0.heap.size w0 wr) (fun i _ => kids.length - (intOf i).toNat)
    case atStart => exact ⟨0, _, Nat.zero_le _, rfl, HG.out, OwnP.nil (Nat.le_refl _), fun _ _ _ => rfl, HB1'.out⟩
    clear kA1 kG1
    case round =>
      obtain ⟨q, vK, hq, rfl, bG, hO, hkp, hb⟩ := hrel
      obtain ⟨AK, cK, rfl⟩ := hO.form
      have lG := bG.lt
      have bA : Box wr w.heap.size 30 [.int .i64 k, .string n, .slice A l.length c, .slice A' kids.length c'] := (hb.block _ zA).trans HB1.out.2.1
      by_cases hlt : q < kids.length
      · obtain ⟨x, hx⟩ : ∃ x, kids[q]? = some x := ⟨kids[q], List.getElem?_eq_getElem hlt⟩
        have hk0 : (0 : Int) ≤ (q : Int) := by omega
        have hk1 : (q : Int) < (kids.length : Int) := by omega
        obtain ⟨b, off, u0, u1, u2, u3, e, -, hbl, hat, d0, d1, d2, d3⟩ := rows_at4 Ty.len (HV.out.below hb) hx
        subst e
        obtain ⟨f0, f1, f2, f3, f4, f5, f6, f7, exx⟩ := Ty.form hat
        simp only [List.cons.injEq, and_true] at exx
        obtain ⟨rfl, rfl, rfl, rfl⟩ := exx
        have hxm := List.mem_of_getElem? hx
        have HC := Lib.hid (HI.out x hxm _ wr.drew hat.drew (HT.out x hxm))
        have hOd := hO.drew
        have bGd : Box wr.drew g 30 [.int .i64 k, .string n, .slice AL l.length cL, .slice AK q cK] := bG
        have HN := Lib.hid (take_next (f := Ty.ds) hx)
        have HKP := Lib.hid (And.intro hkp hb)
        have kA := bA.cell
        have kG := bG.cell
        clear hx hxm hat hO bG hkp hb bA
        go_upto_region 5 with fail
        go_region_law (first
          | (go_simp; go_at_call 75; ((refine HC.out.mono ?_); rintro e w3 ⟨cs3, rfl, hs3, hb3⟩; obtain ⟨z0, z1, z2, z3, z4, z5, z6, z7, rfl⟩ := Ty.form hs3.ats; have bG3 := Box.call (w := wr.drew) bGd hb3; have c9 := bG3.cell; have l9 := bG3.lt))
          | ((with_reducible refine at_world (w3.alloc (.cells #[.int .i64 z0, .string z1, .slice z2 z3 z4, .slice z5 z6 z7] 30)) ?_); refine step_ownP (vs := [.int .i64 z0, .string z1, .slice z2 z3 z4, .slice z5 z6 z7]) hOd hb3 hs3 (.tmp 22) (.tmp 29) Tryz.underlying28 HJ.out.1 HJ.out.2.1 HJ.out.2.2.1 HJ.out.2.2.2 rfl (by decide) rfl (by simp [Value.oneCell']) (by unfold maxLen; omega) (by omega) ?_; intro v' w' ho' hb'; obtain ⟨A2, c2, rfl⟩ := ho'.form; have bG2 : Box w' g 30 [.int .i64 k, .string n, .slice AL l.length cL, .slice AK q cK] := (hb'.block g hgl).trans bGd; have cg := bG2.cell; have fg := bG2.frozen; have lg := bG2.lt))
        all_goals
          have HON := Lib.hid (ho'.set (p := ⟨g, 3, none⟩) hgl (.slice A2 (q + 1) c2))
          have HBN := Lib.hid (show Box (w'.setCell ⟨g, 3, none⟩ (.slice A2 (q + 1) c2)) g 30 [.int .i64 k, .string n, .slice AL l.length cL, .slice A2 (q + 1) c2] from bG2.set 3 _)
          have HKN := Lib.hid (show ∀ b, b < W1.heap.size → b ≠ g → (w'.setCell ⟨g, 3, none⟩ (.slice A2 (q + 1) c2)).heap[b]? = W1.heap[b]? from fun b h1 h2 => ((Below.heap_setCell _ _ _ _ h2).trans (hb'.block b h1)).trans (HKP.out.1 b h1 h2))
          have HWN := Lib.hid (show Below w0.heap.size w0 (w'.setCell ⟨g, 3, none⟩ (.slice A2 (q + 1) c2)) from (HKP.out.2.drew.trans (hb'.mono hs1)).setCell hg _)
          clear kA kG d0 d1 d2 d3 cg fg lg bG2 bGd hOd ho' hb'
          go_wp2
          go_roundw
          case rel => exact ⟨q + 1, _, by omega, by go_num, HBN.out, by rw [HN.out]; exact HON.out, HKN.out, HWN.out⟩
          case measure => simp [intOf]; omega
      · obtain rfl : q = kids.length := by omega
        have hD := hO.done (fun h0 => by rw [List.take_length, List.eq_nil_of_length_eq_zero h0]; rfl)
        rw [List.take_length] at hD
        have HD := Lib.hid hD
        have HKP := Lib.hid (And.intro hkp hb)
        have bR : Box wr (w.heap.size + 1) 30 [.int .i64 0, .string ⟨#[]⟩, .slice none 0 0, .slice none 0 0] := (hb.block _ zR).trans HB1.out.2.2
        have kA := bA.cell
        have kG := bG.cell
        have kR := bR.cell
        have fR := bR.frozen
        have lR := bR.lt
        clear hD hO hkp hb
        go_wp2
        refine bodyPost_ret (v := .agg #[.int .i64 k, .string n, .slice AL l.length cL, .slice AK kids.length cK]) (by simp [results, Tryz.results75, go_sem, kR]) rfl ⟨[.int .i64 k, .string n, .slice AL l.length cL, .slice AK kids.length cK], rfl, ?_, ?_⟩
        · have h3 : ∀ b ∈ bl, b ≠ w.heap.size + 1 := fun b hb => by have := HS1.out.2.2 b hb; have := HS0.out; omega
          have hsz := HKP.out.2.size
          refine own_end (w := wr) (B := W1.heap.size) HK.out.1 HK.out.2.1 (D.Sep.keep _ _ _ (fun b hb => HKP.out.1 b (HS1.out.2.2 b hb).2.1 (HS1.out.2.2 b hb).2.2) HS1.out.1) HS1.out.2.1 (fun b hb => ⟨by have := HS1.out.2.2 b hb; have := HS0.out; omega, (HS1.out.2.2 b hb).2.1⟩) (by have := HS0.out; omega) HD.out (by simp [World.setCell]) (fun b hb => ?_)
          have hne : b ≠ w.heap.size + 1 := by
            rcases hb with hb | hb
            · exact h3 b hb
            · have := HS0.out; omega
          rw [Below.heap_setCell _ _ _ _ hne, Below.heap_setCell _ _ _ _ hne, Below.heap_setCell _ _ _ _ hne, Below.heap_setCell _ _ _ _ hne]
        · have := HB1.out.1.trans (HKP.out.2.mono HB1.out.1.size)
          with_reducible refine Below.setCell (Below.setCell (Below.setCell (Below.setCell ?_ ?_ _) ?_ _) ?_ _) ?_ _
          · exact this
          all_goals exact Nat.le_succ _
end Go.Proofs.YtpfkhojhkjaafaaGreatDoor
namespace Go.Proofs.YtpfkhojhkjaafaaGreatDoor
open Go.RowKit

/-- A function hands back a copy of a function's type, every slice of it in a block of its own. -/
def OwnFn (F : FuncId) (x : Fn) : Prop := ∀ (cs : List Value) (w : World), D.Ats w anyB x.ds cs → D.totals x.ds ≤ 4194304 → Calls Tryz.prog F #[.agg cs.toArray] w (RetSs x.ds w)
theorem info_tParam : (Tryz.prog.info? 113).map (fun i => (i.zero, i.size, i.bytes)) = some (some (.agg #[.string ⟨#[]⟩, .int .i64 0, .string ⟨#[]⟩, .slice none 0 0, .slice none 0 0]), 5, 88) := by kernel_rfl
theorem fn_sizes {ps : List Pa} {r : Ty} {ay : Bool} (h : D.totals (Fn.ds ⟨ps, r, ay⟩) ≤ 4194304) : ps.length ≤ 4194304 ∧ D.totals r.ds ≤ 4194304 ∧ ∀ x ∈ ps, D.totals x.ty.ds ≤ 4194304 := by
  have e : D.totals (Fn.ds ⟨ps, r, ay⟩) = (rows Pa.ds 5 ps).total + (D.totals r.ds + 0) := by simp [Fn.ds, D.totals, D.total, D.totals_append]
  have e1 : (rows Pa.ds 5 ps).total = ps.length + D.totals (ps.flatMap Pa.ds) := rows_total ..
  refine ⟨by omega, by omega, fun x hx => ?_⟩
  have h1 := totals_mem (f := Pa.ds) hx
  have h2 : D.totals (Pa.ds x) = x.name.size + D.totals x.ty.ds := by simp [Pa.ds, D.totals, D.total]
  omega
theorem keep5 {w0 W : World} {h : Nat} {a b c d e : Value} (zA : h < w0.heap.size) (e1 : w0.cell? ⟨h, 1, none⟩ = some a) (e2 : w0.cell? ⟨h, 2, none⟩ = some b) (e3 : w0.cell? ⟨h, 3, none⟩ = some c) (e4 : w0.cell? ⟨h, 4, none⟩ = some d) (e5 : w0.cell? ⟨h, 5, none⟩ = some e)
    (G : Below w0.heap.size w0 W) : W.cell? ⟨h, 1, none⟩ = some a ∧ W.cell? ⟨h, 2, none⟩ = some b ∧ W.cell? ⟨h, 3, none⟩ = some c ∧ W.cell? ⟨h, 4, none⟩ = some d ∧ W.cell? ⟨h, 5, none⟩ = some e :=
  ⟨(G.cell (p := ⟨h, 1, none⟩) zA).trans e1, (G.cell (p := ⟨h, 2, none⟩) zA).trans e2, (G.cell (p := ⟨h, 3, none⟩) zA).trans e3, (G.cell (p := ⟨h, 4, none⟩) zA).trans e4, (G.cell (p := ⟨h, 5, none⟩) zA).trans e5⟩
theorem box5 {W : World} {e : Nat} {t : TypeId} {c0 c1 c2 c3 c4 : Value} (h : Box W e t [c0, c1, c2, c3, c4]) : W.cell? ⟨e, 0, none⟩ = some c0 ∧ W.cell? ⟨e, 1, none⟩ = some c1 ∧ W.cell? ⟨e, 2, none⟩ = some c2 ∧ W.cell? ⟨e, 3, none⟩ = some c3 ∧ W.cell? ⟨e, 4, none⟩ = some c4 :=
  ⟨h.cell 0, h.cell 1, h.cell 2, h.cell 3, h.cell 4⟩
/-- Append of one element to such a row, as one step of a region that draws its order; what was made since is kept. -/
theorem step_ownP2 {P : Program} {w0 w1 : World} {ops : Array Oper} {o : Oper} {a : Act} {K : Act → World → Prop} {Q : Exit → Act → World → Prop} {E : Prop} {base : Nat} {e t : TypeId} {size bytes n : Nat} {v : Value} {vs : List Value} {ds es : List D} {i : TypeInfo} {z : Value} {fz : Nat × Nat}
    (hp : OwnP w0 base e size v n ds) (hb : Below w0.heap.size w0 w1) (hr : SepsIn w1 w0.heap.size w1.heap.size es vs) (s x : Operand) (ht : P.underlying t = some (.slice e)) (hi : P.info? e = some i) (hz : i.zero = some z)
    (hsize : i.size = size) (hby : i.bytes = bytes) (hzs : z.cells.size = size) (hsz : 0 < size)
    (hl : vs.length = size) (h1 : ∀ u ∈ vs, u.oneCell' = true) (h63 : n + 1 ≤ maxLen) (hbytes : (n + 1) * bytes ≤ 140737488355328)
    (h : ∀ v' w', OwnP w' base e size v' (n + 1) (ds ++ es) → Below base w0 w' → (∀ b, w0.heap.size ≤ b → b < w1.heap.size → w'.heap[b]? = w1.heap[b]?) → K (a.put o.dst v') w')
    (hgd : o.guard = none := by exact rfl) (ho : o.op = .call { callee := .builtin .append, args := #[s, x], argTypes := #[t, t] } := by exact rfl)
    (hs : a.eval s = v := by simp [Act.eval, Act.put]) (hx : a.eval x = .slice (some ⟨w1.heap.size, 0, none⟩) 1 1 := by simp [Act.eval, Act.put]) :
    if Region.wanted o (yielded ops a.tmps) = true then Oper.wp P o a (w1.alloc (.cells vs.toArray e fz)) K Q else E := by
  have hw : Region.wanted o (yielded ops a.tmps) = true := by simp [Region.wanted, hgd]
  rw [if_pos hw]
  have hp' := hp
  obtain ⟨h0, xs, l, g1, g2, g3, g4⟩ := hp
  have s1 := hb.size
  have ha : Below w1.heap.size w1 (w1.alloc (.cells vs.toArray e fz)) := (Below.refl _ _).alloc (Nat.le_refl _) _
  have hown : (w1.alloc (.cells vs.toArray e fz)).ownsRow base e size v n xs := own_keep g1 (fun b _ hlt => by rw [ha.block b (by omega), hb.block b hlt])
  obtain ⟨v', w', q1, q2, q3, -, q5⟩ := run_append_own_at (P := P) (w1.alloc (.cells vs.toArray e fz)) base t o.type e i z size bytes ht hi hz hsize hby hzs hsz v n xs hown ⟨w1.heap.size, 0, none⟩ 1 1 vs (by rw [hl, Nat.one_mul])
    (fun j u hj => by rw [Addr.add_lit, cell_of_row _ _ _ _ _ _ (heap_alloc_new w1 _)]; simpa using hj) h1 h63 hbytes (by simp; omega)
  have h2 : OwnP w' base e size v' (n + 1) (ds ++ es) := OwnP.next h0 g1 g2 g3 g4 hb hr ha q2 q3 q5
  have h3 : Below base w0 w' := ((hb.mono h0).trans (ha.mono (by omega))).grown q3 (by simp; omega) (fun k hk => (g1.lt k hk).1)
  have h4 : ∀ b, w0.heap.size ≤ b → b < w1.heap.size → w'.heap[b]? = w1.heap[b]? := fun b k1 k2 => by
    rw [q3.block b (by simp; omega) (fun e => by have := (g1.lt b e.symm).2; omega), ha.block b k2]
  unfold Oper.wp execOp
  simp only [ho, resolve, invoke, builtin, Sem.run_bind, Sem.run_pure, Result.andThen_ok, List.map_toArray, List.map_cons, List.map_nil, hs, hx, q1]
  exact h v' w' h2 h3 h4
theorem arr_get {α : Type} {l : List α} {i : Nat} {o : α} (h : l[i]? = some o) : (l.toArray)[i]? = some o := by simpa using h
theorem keep6 {w0 W : World} {h b o : Nat} {a c0 c1 c2 c3 c4 : Value} (zA : h < w0.heap.size) (zb : b < w0.heap.size) (e : w0.cell? ⟨h, 0, none⟩ = some a) (e0 : w0.cell? ⟨b, o, none⟩ = some c0) (e1 : w0.cell? ⟨b, o + 1, none⟩ = some c1) (e2 : w0.cell? ⟨b, o + 2, none⟩ = some c2) (e3 : w0.cell? ⟨b, o + 3, none⟩ = some c3) (e4 : w0.cell? ⟨b, o + 4, none⟩ = some c4)
    (G : Below w0.heap.size w0 W) : W.cell? ⟨h, 0, none⟩ = some a ∧ W.cell? ⟨b, o, none⟩ = some c0 ∧ W.cell? ⟨b, o + 1, none⟩ = some c1 ∧ W.cell? ⟨b, o + 2, none⟩ = some c2 ∧ W.cell? ⟨b, o + 3, none⟩ = some c3 ∧ W.cell? ⟨b, o + 4, none⟩ = some c4 :=
  ⟨(G.cell (p := ⟨h, 0, none⟩) zA).trans e, (G.cell (p := ⟨b, o, none⟩) zb).trans e0, (G.cell (p := ⟨b, o + 1, none⟩) zb).trans e1, (G.cell (p := ⟨b, o + 2, none⟩) zb).trans e2, (G.cell (p := ⟨b, o + 3, none⟩) zb).trans e3, (G.cell (p := ⟨b, o + 4, none⟩) zb).trans e4⟩
theorem fn_cutB {w0 w' : World} {g B lo : Nat} {t : TypeId} {y0 y1 y2 y3 y4 y5 c0 c1 c2 c3 c4 c5 : Value} {ds : List D} {cs : List Value} (hz : Box w' g t [y0, y1, y2, y3, y4, y5]) (h : SepsIn w' lo w'.heap.size ds cs) (hlo : g < lo) (hb : Below B w0 w') (hg : B ≤ g) :
    B ≤ g ∧ Box ((((((w'.setCell ⟨g, 0, none⟩ c0).setCell ⟨g, 1, none⟩ c1).setCell ⟨g, 2, none⟩ c2).setCell ⟨g, 3, none⟩ c3).setCell ⟨g, 4, none⟩ c4).setCell ⟨g, 5, none⟩ c5) g t [c0, c1, c2, c3, c4, c5] ∧ (∃ bl, D.Seps ((((((w'.setCell ⟨g, 0, none⟩ c0).setCell ⟨g, 1, none⟩ c1).setCell ⟨g, 2, none⟩ c2).setCell ⟨g, 3, none⟩ c3).setCell ⟨g, 4, none⟩ c4).setCell ⟨g, 5, none⟩ c5) ds bl cs ∧ bl.Nodup ∧ ∀ x ∈ bl, B ≤ x ∧ x < ((((((w'.setCell ⟨g, 0, none⟩ c0).setCell ⟨g, 1, none⟩ c1).setCell ⟨g, 2, none⟩ c2).setCell ⟨g, 3, none⟩ c3).setCell ⟨g, 4, none⟩ c4).setCell ⟨g, 5, none⟩ c5).heap.size ∧ x ≠ g) ∧ Below B w0 ((((((w'.setCell ⟨g, 0, none⟩ c0).setCell ⟨g, 1, none⟩ c1).setCell ⟨g, 2, none⟩ c2).setCell ⟨g, 3, none⟩ c3).setCell ⟨g, 4, none⟩ c4).setCell ⟨g, 5, none⟩ c5) := by
  obtain ⟨-, bl, h1, h2, h3⟩ := h
  refine ⟨hg, (((((hz.set 0 c0).set 1 c1).set 2 c2).set 3 c3).set 4 c4).set 5 c5, ⟨bl, D.Seps.keep _ _ _ (fun b hb => ?_) h1, h2, fun b hb => ?_⟩, (((((hb.setCell hg _).setCell hg _).setCell hg _).setCell hg _).setCell hg _).setCell hg _⟩
  · have hne : b ≠ g := by have := (h3 b hb).1; omega
    rw [Below.heap_setCell _ _ _ _ hne, Below.heap_setCell _ _ _ _ hne, Below.heap_setCell _ _ _ _ hne, Below.heap_setCell _ _ _ _ hne, Below.heap_setCell _ _ _ _ hne, Below.heap_setCell _ _ _ _ hne]
  · have h4 := h3 b hb
    refine ⟨by omega, by simpa [World.setCell] using h4.2, by omega⟩
theorem fn_cutC {w0 w' : World} {t : TypeId} {c0 c1 c2 c3 c4 c5 : Value} {ds : List D} {cs : List Value} {B lo : Nat} (h : SepsIn w' lo w'.heap.size ds cs) (hlo : B ≤ lo) (hb : Below B w0 w') (hB : B ≤ w'.heap.size) :
    B ≤ w'.heap.size ∧ Box (w'.alloc (.cells #[c0, c1, c2, c3, c4, c5] t)) w'.heap.size t [c0, c1, c2, c3, c4, c5] ∧
      (∃ bl, D.Seps (w'.alloc (.cells #[c0, c1, c2, c3, c4, c5] t)) ds bl cs ∧ bl.Nodup ∧ ∀ x ∈ bl, B ≤ x ∧ x < (w'.alloc (.cells #[c0, c1, c2, c3, c4, c5] t)).heap.size ∧ x ≠ w'.heap.size) ∧ Below B w0 (w'.alloc (.cells #[c0, c1, c2, c3, c4, c5] t)) := by
  obtain ⟨-, bl, h1, h2, h3⟩ := h
  refine ⟨hB, Box.new w' t _, ⟨bl, D.Seps.keep _ _ _ (fun b hb => Below.heap_alloc w' _ b (h3 b hb).2) h1, h2, fun b hb => ?_⟩, hb.alloc hB _⟩
  have h4 := h3 b hb
  refine ⟨by omega, by simp; omega, by omega⟩
/-- Behind the loop: the parts of the copy. -/
theorem fn_end {w w' : World} {h : Nat} {ps : List Pa} {r : Ty} {ay : Bool} {vP : Value} {cs : List Value} {bl : List Nat} {B : Nat} (hR : D.Seps w r.ds bl cs) (hd : bl.Nodup) (hb : ∀ b ∈ bl, h ≤ b ∧ b < B) (hB : h ≤ B)
    (hP : SepIn w B w.heap.size (rows Pa.ds 5 ps) vP) (hw : w'.heap.size = w.heap.size) (hkeep : ∀ b, (b ∈ bl ∨ B ≤ b) → w'.heap[b]? = w.heap[b]?) : SepsIn w' h w'.heap.size (Fn.ds ⟨ps, r, ay⟩) (vP :: (cs ++ [.bool ay])) := by
  obtain ⟨h0, lP, p1, p2, p3⟩ := hP
  have hR' := D.Seps.keep (w' := w') _ _ _ (fun b hm => hkeep b (.inl hm)) hR
  have hP' := D.Sep.keep (w' := w') _ _ _ (fun b hm => hkeep b (.inr (p3 b hm).1)) p1
  have hT := D.Seps.cons hP' (D.Seps.append hR' (D.Seps.cons (D.Sep.bool_ (b := ay) w') D.Seps.nil))
  refine ⟨by omega, _, hT, ?_, fun b hb' => ?_⟩
  · simp only [List.append_nil]
    refine List.nodup_append.2 ⟨p2, hd, fun a ha b hb' e => ?_⟩
    have := (p3 a ha).1; have := (hb b hb').2; omega
  · simp only [List.append_nil, List.mem_append] at hb'
    rcases hb' with hb' | hb'
    · have := p3 b hb'; omega
    · have := hb b hb'; omega
theorem pa_seps {w : World} {lo hi : Nat} {x : Pa} {cs : List Value} (hs : x.name.size ≤ maxLen) (h : SepsIn w lo hi x.ty.ds cs) : SepsIn w lo hi x.ds (.string x.name :: cs) := SepsIn.cons (SepIn.str hs) h
end Go.Proofs.YtpfkhojhkjaafaaGreatDoor
namespace Go.Proofs.YtpfkhojhkjaafaaGreatDoor
open Go.RowKit

set_option maxHeartbeats 4000000 in
set_option maxRecDepth 20000 in
theorem l03OwnFunc_s (x : Fn) : OwnFn 35 x := by
  intro cs w hcs ht
  obtain ⟨ps, r, ay⟩ := x
  obtain ⟨B, d, k, n, A, m, c, A', m', c', rfl, hps, hres⟩ := Fn.open_ hcs
  change D.At w anyB (rows Pa.ds 5 ps) (.slice B ps.length d) at hps
  change D.Ats w anyB r.ds [.int .i64 k, .string n, .slice A m c, .slice A' m' c'] at hres
  obtain ⟨-, hnp, hcp⟩ := rows_bound hps
  unfold maxLen at hcp
  obtain ⟨hp4, hrt, hpt⟩ := fn_sizes ht
  have HT := Lib.hid hpt
  obtain ⟨j0, hj, hy0, hy1, hy2⟩ := info_parts info_tParam
  have HJ := Lib.hid (And.intro hj (And.intro hy0 (And.intro hy1 hy2)))
  obtain ⟨w0, hw0⟩ : ∃ w0, w0 = (w.alloc (.cells #[.slice B ps.length d, .int .i64 k, .string n, .slice A m c, .slice A' m' c', .bool ay] 32)).alloc (.cells #[.slice none 0 0, .int .i64 0, .string ⟨#[]⟩, .slice none 0 0, .slice none 0 0, .bool false] 32) := ⟨_, rfl⟩
  have bA : Box w0 w.heap.size 32 [.slice B ps.length d, .int .i64 k, .string n, .slice A m c, .slice A' m' c', .bool ay] := by rw [hw0]; exact (Box.new w _ _).alloc _
  have bR : Box w0 (w.heap.size + 1) 32 [.slice none 0 0, .int .i64 0, .string ⟨#[]⟩, .slice none 0 0, .slice none 0 0, .bool false] := by rw [hw0]; have := Box.new (w.alloc (.cells #[.slice B ps.length d, .int .i64 k, .string n, .slice A m c, .slice A' m' c', .bool ay] 32)) 32 [.slice none 0 0, .int .i64 0, .string ⟨#[]⟩, .slice none 0 0, .slice none 0 0, .bool false]; simpa using this
  have B0 : Below w.heap.size w w0 := by rw [hw0]; exact ((Below.refl _ _).alloc (Nat.le_refl _) _).alloc (by simp) _
  have hs0 : w0.heap.size = w.heap.size + 2 := by rw [hw0]; simp
  have HV := Lib.hid (D.At.below hps B0)
  have HRS := Lib.hid (D.Ats.below hres B0)
  have HOWN := Lib.hid (fun W (h : Below w0.heap.size w0 W) => l03Own_s r [.int .i64 k, .string n, .slice A m c, .slice A' m' c'] W (HRS.out.below h) hrt)
  have HS0 := Lib.hid hs0
  clear hcs hps hres ht hrt hpt hj hy0 hy1 hy2 hs0
  change Calls Tryz.prog 35 #[.agg #[.slice B ps.length d, .int .i64 k, .string n, .slice A m c, .slice A' m' c', .bool ay]] w _
  have kA := bA.cell
  go_enter Tryz.func35, Tryz.ntmps35
  go_upto_region 1 with fail
  rw [← hw0]
  clear hw0
  have a1 : w0.cell? ⟨w.heap.size, 1, none⟩ = some (.int .i64 k) := kA 1
  have a2 : w0.cell? ⟨w.heap.size, 2, none⟩ = some (.string n) := kA 2
  have a3 : w0.cell? ⟨w.heap.size, 3, none⟩ = some (.slice A m c) := kA 3
  have a4 : w0.cell? ⟨w.heap.size, 4, none⟩ = some (.slice A' m' c') := kA 4
  have a5 : w0.cell? ⟨w.heap.size, 5, none⟩ = some (.bool ay) := kA 5
  clear kA
  have zA := bA.lt
  go_cut [3] (fun s wx => ∃ (g : Nat) (z0 : Int) (z1 : ByteArray) (z2 : Option Addr) (z3 z4 : Nat) (z5 : Option Addr) (z6 z7 : Nat), s = .pointer (some ⟨g, 0, none⟩) ∧ w0.heap.size ≤ g ∧ Box wx g 32 [.slice none 0 0, .int .i64 z0, .string z1, .slice z2 z3 z4, .slice z5 z6 z7, .bool ay] ∧ (∃ bl, D.Seps wx r.ds bl [.int .i64 z0, .string z1, .slice z2 z3 z4, .slice z5 z6 z7] ∧ bl.Nodup ∧ ∀ b ∈ bl, w0.heap.size ≤ b ∧ b < wx.heap.size ∧ b ≠ g) ∧ Below w0.heap.size w0 wx)
  case first =>
    have K0 : Below w0.heap.size w0 w0.drew := (Below.refl _ w0).drew
    have m3 : Below w0.heap.size w0 (w0.alloc (.cells #[.slice none 0 0, .int .i64 0, .string ⟨#[]⟩, .slice none 0 0, .slice none 0 0, .bool false] 32)).drew := ((Below.refl _ w0).alloc (Nat.le_refl _) _).drew
    have b3 : Box (w0.alloc (.cells #[.slice none 0 0, .int .i64 0, .string ⟨#[]⟩, .slice none 0 0, .slice none 0 0, .bool false] 32)).drew w0.heap.size 32 [.slice none 0 0, .int .i64 0, .string ⟨#[]⟩, .slice none 0 0, .slice none 0 0, .bool false] := Box.new w0 _ [.slice none 0 0, .int .i64 0, .string ⟨#[]⟩, .slice none 0 0, .slice none 0 0, .bool false]
    have s3 : (w0.alloc (.cells #[.slice none 0 0, .int .i64 0, .string ⟨#[]⟩, .slice none 0 0, .slice none 0 0, .bool false] 32)).drew.heap.size = w0.heap.size + 1 := by have h : (w0.alloc (.cells #[.slice none 0 0, .int .i64 0, .string ⟨#[]⟩, .slice none 0 0, .slice none 0 0, .bool false] 32)).heap.size = w0.heap.size + 1 := (by simp); exact h
    have HS3 := Lib.hid s3
    clear s3
    go_region_held3 (fun w' => w'.cell? ⟨w.heap.size, 1, none⟩ = some (.int .i64 k) ∧ w'.cell? ⟨w.heap.size, 2, none⟩ = some (.string n) ∧ w'.cell? ⟨w.heap.size, 3, none⟩ = some (.slice A m c) ∧ w'.cell? ⟨w.heap.size, 4, none⟩ = some (.slice A' m' c') ∧ w'.cell? ⟨w.heap.size, 5, none⟩ = some (.bool ay))
      (first | with_reducible exact HE0 | ((refine keep5 zA a1 a2 a3 a4 a5 ?_); (repeat (first | with_reducible exact K0 | with_reducible exact m3 | with_reducible exact bw | with_reducible exact Below.refl _ _ | with_reducible refine Below.drew ?_ | (with_reducible refine Below.setCell ?_ ?_ _; rotate_left; (first | with_reducible exact Nat.le_refl _ | with_reducible exact Nat.le_succ _ | with_reducible exact bw.size | (simp; done))) | (with_reducible refine Below.alloc ?_ ?_ _; rotate_left; (first | with_reducible exact Nat.le_refl _ | with_reducible exact bw.size | (simp; done) | (simp; omega))))); done) | (trace_state; fail))
      (first
      | (go_at_call 75; ((with_reducible refine (HOWN.out w0.drew K0).mono ?_); rintro e w' ⟨cs', rfl, hs', hb'⟩; obtain ⟨z0, z1, z2, z3, z4, z5, z6, z7, rfl⟩ := Ty.form hs'.ats; have bw : Below w0.heap.size w0 w' := K0.trans (hb'.mono (Nat.le_refl _)); have HE0 := keep5 zA a1 a2 a3 a4 a5 bw; have hC1 : w0.heap.size ≤ w0.drew.heap.size := Nat.le_refl _))
      | (go_at_call 75; ((with_reducible refine (HOWN.out _ m3).mono ?_); rintro e w' ⟨cs', rfl, hs', hb'⟩; obtain ⟨z0, z1, z2, z3, z4, z5, z6, z7, rfl⟩ := Ty.form hs'.ats; have bw : Below w0.heap.size w0 w' := m3.trans (hb'.mono m3.size); have HE0 := keep5 zA a1 a2 a3 a4 a5 bw; have bZ := Box.call b3 hb'; have cz := bZ.cell; have fz := bZ.frozen; have lz := bZ.lt)))
    all_goals
      go_wp2_with fail
      go_meet
      first
        | (have hz : Box w' w0.heap.size 32 [.slice none 0 0, .int .i64 0, .string ⟨#[]⟩, .slice none 0 0, .slice none 0 0, .bool false] := (by with_reducible exact bZ)
           exact ⟨w0.heap.size, z0, z1, z2, z3, z4, z5, z6, z7, rfl, fn_cutB hz hs' (by have := HS3.out; omega) bw (Nat.le_refl _)⟩)
        | exact ⟨w'.heap.size, z0, z1, z2, z3, z4, z5, z6, z7, rfl, fn_cutC hs' hC1 bw bw.size⟩
  case rest =>
    obtain ⟨g, z0, z1, z2, z3, z4, z5, z6, z7, rfl, hg, bG, ⟨bl, sL, nd, hbl⟩, B1⟩ := hcut
    obtain ⟨W1, hW1⟩ : ∃ W1, W1 = wc := ⟨_, rfl⟩
    rw [← hW1] at bG sL hbl B1 ⊢
    clear hW1 a1 a2 a3 a4 a5 zA HRS HOWN
    have hs1 := B1.size
    have hgl := bG.lt
    have zA := bA.lt
    have zR := bR.lt
    have HS1 := Lib.hid (And.intro sL (And.intro nd hbl))
    have HB1 := Lib.hid (And.intro B0 (And.intro bA bR))
    have HG := Lib.hid bG
    have HB1' := Lib.hid B1
    have kA1 := (bA.call B1).cell
    have kG1 := bG.cell
    clear sL nd hbl bA bR B0 bG B1
    go_wp2
    go_loopw [4] (fun i wr => ∃ (q : Nat) (vK : Value), q ≤ ps.length ∧ i = .int .i64 q ∧ Box wr g 32 [vK, .int .i64 z0, .string z1, .slice z2 z3 z4, .slice z5 z6 z7, .bool ay] ∧ OwnP wr W1.heap.size 113 5 vK q ((ps.take q).flatMap Pa.ds) ∧ (∀ b, b < W1.heap.size → b ≠ g → wr.heap[b]? = W1.heap[b]?) ∧ Below w0.heap.size w0 wr) (fun i _ => ps.length - (intOf i).toNat)
    case atStart => exact ⟨0, _, Nat.zero_le _, rfl, HG.out, OwnP.nil (Nat.le_refl _), fun _ _ _ => rfl, HB1'.out⟩
    clear kA1 kG1
    case round =>
      obtain ⟨q, vK, hq, rfl, bG, hO, hkp, hb⟩ := hrel
      obtain ⟨AK, cK, rfl⟩ := hO.form
      have lG := bG.lt
      have bA : Box wr w.heap.size 32 [.slice B ps.length d, .int .i64 k, .string n, .slice A m c, .slice A' m' c', .bool ay] := (hb.block _ zA).trans HB1.out.2.1
      by_cases hlt : q < ps.length
      · obtain ⟨x, hx⟩ : ∃ x, ps[q]? = some x := ⟨ps[q], List.getElem?_eq_getElem hlt⟩
        have hk0 : (0 : Int) ≤ (q : Int) := by omega
        have hk1 : (q : Int) < (ps.length : Int) := by omega
        obtain ⟨b, off, u0, u1, u2, u3, u4, e, -, zb, hat, g0, g1, g2, g3, g4⟩ := rows_at5 Pa.len HV.out hx
        subst e
        obtain ⟨f0, f1, f2, f3, f4, f5, f6, f7, exx, hnm, hat'⟩ := Pa.open_ hat
        simp only [List.cons.injEq, and_true] at exx
        obtain ⟨rfl, rfl, rfl, rfl, rfl⟩ := exx
        have hxm := List.mem_of_getElem? hx
        obtain ⟨nm, hnmE⟩ : ∃ nm, x.name = nm := ⟨_, rfl⟩
        rw [hnmE] at g0 hnm hat
        have HNM := Lib.hid (And.intro hnmE hnm)
        have HN := Lib.hid (take_next (f := Pa.ds) hx)
        replace hat' := hat'.below hb
        have hOd := hO.drew
        have bGd : Box wr.drew g 32 [.slice AK q cK, .int .i64 z0, .string z1, .slice z2 z3 z4, .slice z5 z6 z7, .bool ay] := bG
        have HC := Lib.hid (l03Own_s x.ty _ wr.drew hat'.drew (HT.out x hxm))
        have hw : Below w0.heap.size w0 wr.drew := hb.drew
        have HKP := Lib.hid (And.intro hkp hw)
        have x0 : w0.cell? ⟨w.heap.size, 0, none⟩ = some (.slice (some ⟨b, off, none⟩) ps.length d) := HB1.out.2.1.cell 0
        have hwr : Below w0.heap.size w0 wr := hb
        have kA := bA.cell
        have kG := bG.cell
        clear hx hxm hat hat' hO bG hkp hb bA hnmE hnm
        go_upto_region 5 with fail
        refine wp_region_held_drew (S := (fun W => W.cell? ⟨w.heap.size, 0, none⟩ = some (.slice (some ⟨b, off, none⟩) ps.length d) ∧ W.cell? ⟨b, off + q * 5, none⟩ = some (.string nm) ∧ W.cell? ⟨b, off + q * 5 + 1, none⟩ = some (.int .i64 f0) ∧ W.cell? ⟨b, off + q * 5 + 2, none⟩ = some (.string f1) ∧ W.cell? ⟨b, off + q * 5 + 3, none⟩ = some (.slice f2 f3 f4) ∧ W.cell? ⟨b, off + q * 5 + 4, none⟩ = some (.slice f5 f6 f7))) (by kernel_rfl) ?_ (fun hHeld => ?_)
        · (try dsimp only); (first | with_reducible exact HE1 | with_reducible exact HE0 | ((refine keep6 zA zb x0 g0 g1 g2 g3 g4 ?_); (repeat (first | with_reducible exact bw4 | with_reducible exact bw3 | with_reducible exact hw | with_reducible exact hwr | with_reducible refine Below.drew ?_ | (with_reducible refine Below.setCell ?_ hg _) | (with_reducible refine Below.alloc ?_ (bw3.size) _))); done))
        refine wpAnyH_take (i := 0) (v := ?_) (arr_get rfl) (by kernel_rfl) (by kernel_rfl) (by kernel_rfl) (fun _ _ _ h => h) (Or.inl ⟨by rfl, ?_⟩) (by assumption) ?_
        rotate_left 1
        · (intro W hSw; (try dsimp only at hSw); go_simp; try with_reducible rfl)
        (try simp only [Act.put, List.setIfInBounds_toArray, List.set_cons_zero, List.set_cons_succ])
        refine wpAnyH_take (i := 2) (v := ?_) (arr_get rfl) (by kernel_rfl) (by kernel_rfl) (by kernel_rfl) (fun _ _ _ h => h) (Or.inl ⟨by rfl, ?_⟩) (by assumption) ?_
        rotate_left 1
        · (intro W hSw; (try dsimp only at hSw); go_simp; try with_reducible rfl)
        (try simp only [Act.put, List.setIfInBounds_toArray, List.set_cons_zero, List.set_cons_succ])
        refine wpAnyH_take (i := 3) (v := ?_) (arr_get rfl) (by kernel_rfl) (by kernel_rfl) (by kernel_rfl) (fun _ _ _ h => h) (Or.inl ⟨by rfl, ?_⟩) (by assumption) ?_
        rotate_left 1
        · (intro W hSw; (try dsimp only at hSw); go_simp; try with_reducible rfl)
        (try simp only [Act.put, List.setIfInBounds_toArray, List.set_cons_zero, List.set_cons_succ])
        refine wpAnyH_take (i := 4) (v := ?_) (arr_get rfl) (by kernel_rfl) (by kernel_rfl) (by kernel_rfl) (fun _ _ _ h => h) (Or.inl ⟨by rfl, ?_⟩) (by assumption) ?_
        rotate_left 1
        · (intro W hSw; (try dsimp only at hSw); go_simp; try with_reducible rfl)
        (try simp only [Act.put, List.setIfInBounds_toArray, List.set_cons_zero, List.set_cons_succ])
        refine wpAnyH_take (i := 5) (v := ?_) (arr_get rfl) (by kernel_rfl) (by kernel_rfl) (by kernel_rfl) (fun _ _ _ h => h) (Or.inl ⟨by rfl, ?_⟩) (by assumption) ?_
        rotate_left 1
        · (intro W hSw; (try dsimp only at hSw); go_simp; try with_reducible rfl)
        (try simp only [Act.put, List.setIfInBounds_toArray, List.set_cons_zero, List.set_cons_succ])
        refine wpAnyH_take (i := 6) (v := ?_) (arr_get rfl) (by kernel_rfl) (by kernel_rfl) (by kernel_rfl) (fun _ _ _ h => h) (Or.inl ⟨by rfl, ?_⟩) (by assumption) ?_
        rotate_left 1
        · (intro W hSw; (try dsimp only at hSw); go_simp; try with_reducible rfl)
        (try simp only [Act.put, List.setIfInBounds_toArray, List.set_cons_zero, List.set_cons_succ])
        refine wpAnyH_take (i := 7) (v := ?_) (arr_get rfl) (by kernel_rfl) (by kernel_rfl) (by kernel_rfl) (fun _ _ _ h => h) (Or.inl ⟨by rfl, ?_⟩) (by assumption) ?_
        rotate_left 1
        · (intro W hSw; (try dsimp only at hSw); go_simp; try with_reducible rfl)
        (try simp only [Act.put, List.setIfInBounds_toArray, List.set_cons_zero, List.set_cons_succ])
        refine wpAnyH_take (i := 8) (v := ?_) (arr_get rfl) (by kernel_rfl) (by kernel_rfl) (by kernel_rfl) (fun _ _ _ h => h) (Or.inl ⟨by rfl, ?_⟩) (by assumption) ?_
        rotate_left 1
        · (intro W hSw; (try dsimp only at hSw); go_simp; try with_reducible rfl)
        (try simp only [Act.put, List.setIfInBounds_toArray, List.set_cons_zero, List.set_cons_succ])
        refine wpAnyH_take (i := 9) (v := ?_) (arr_get rfl) (by kernel_rfl) (by kernel_rfl) (by kernel_rfl) (fun _ _ _ h => h) (Or.inl ⟨by rfl, ?_⟩) (by assumption) ?_
        rotate_left 1
        · (intro W hSw; (try dsimp only at hSw); go_simp; try with_reducible rfl)
        (try simp only [Act.put, List.setIfInBounds_toArray, List.set_cons_zero, List.set_cons_succ])
        refine wpAnyH_take (i := 10) (v := ?_) (arr_get rfl) (by kernel_rfl) (by kernel_rfl) (by kernel_rfl) (fun _ _ _ h => h) (Or.inl ⟨by rfl, ?_⟩) (by assumption) ?_
        rotate_left 1
        · (intro W hSw; (try dsimp only at hSw); go_simp; try with_reducible rfl)
        (try simp only [Act.put, List.setIfInBounds_toArray, List.set_cons_zero, List.set_cons_succ])
        refine wpAnyH_take (i := 11) (v := ?_) (arr_get rfl) (by kernel_rfl) (by kernel_rfl) (by kernel_rfl) (fun _ _ _ h => h) (Or.inl ⟨by rfl, ?_⟩) (by assumption) ?_
        rotate_left 1
        · (intro W hSw; (try dsimp only at hSw); go_simp; try with_reducible rfl)
        (try simp only [Act.put, List.setIfInBounds_toArray, List.set_cons_zero, List.set_cons_succ])
        refine wpAnyH_take (i := 12) (v := ?_) (arr_get rfl) (by kernel_rfl) (by kernel_rfl) (by kernel_rfl) (fun _ _ _ h => h) (Or.inl ⟨by rfl, ?_⟩) (by assumption) ?_
        rotate_left 1
        · (intro W hSw; (try dsimp only at hSw); go_simp; try with_reducible rfl)
        (try simp only [Act.put, List.setIfInBounds_toArray, List.set_cons_zero, List.set_cons_succ])
        refine wpAnyH_take (i := 13) (v := ?_) (arr_get rfl) (by kernel_rfl) (by kernel_rfl) (by kernel_rfl) (fun _ _ _ h => h) (Or.inl ⟨by rfl, ?_⟩) (by assumption) ?_
        rotate_left 1
        · (intro W hSw; (try dsimp only at hSw); go_simp; try with_reducible rfl)
        (try simp only [Act.put, List.setIfInBounds_toArray, List.set_cons_zero, List.set_cons_succ])
        refine wpAnyH_ready (rs := [1, 14]) (by kernel_rfl) (by simp) ?_
        refine AllReadyH.cons (arr_get rfl) (fun K hK => ?_) ?_
        · go_simp
          (first | refine hK.out _ _ ?_ (fun hHeld => ?_) | (go_wp2_with fail; refine hK.out _ _ ?_ (fun hHeld => ?_)))
          · (try dsimp only); (first | with_reducible exact HE1 | with_reducible exact HE0 | ((refine keep6 zA zb x0 g0 g1 g2 g3 g4 ?_); (repeat (first | with_reducible exact bw4 | with_reducible exact bw3 | with_reducible exact hw | with_reducible exact hwr | with_reducible refine Below.drew ?_ | (with_reducible refine Below.setCell ?_ hg _) | (with_reducible refine Below.alloc ?_ (bw3.size) _))); done))
          clear hK K
          (try simp only [Act.put, List.setIfInBounds_toArray, List.set_cons_zero, List.set_cons_succ])
          refine wpAnyH_ready (rs := [14]) (by kernel_rfl) (by simp) ?_
          refine AllReadyH.cons (arr_get rfl) (fun K hK => ?_) ?_
          · (go_simp; go_at_call 75; ((with_reducible refine HC.out.mono ?_); rintro e w3 ⟨cs3, rfl, hs3, hb3⟩; obtain ⟨y0, y1, y2, y3, y4, y5, y6, y7, rfl⟩ := Ty.form hs3.ats; have bG3 := Box.call (w := wr.drew) bGd hb3; have c9 := bG3.cell; have l9 := bG3.lt; have bw3 : Below w0.heap.size w0 w3 := hw.trans (hb3.mono hw.size); have HE0 := keep6 zA zb x0 g0 g1 g2 g3 g4 bw3))
            (first | refine hK.out _ _ ?_ (fun hHeld => ?_) | (go_wp2_with fail; refine hK.out _ _ ?_ (fun hHeld => ?_)))
            · (try dsimp only); (first | with_reducible exact HE1 | with_reducible exact HE0 | ((refine keep6 zA zb x0 g0 g1 g2 g3 g4 ?_); (repeat (first | with_reducible exact bw4 | with_reducible exact bw3 | with_reducible exact hw | with_reducible exact hwr | with_reducible refine Below.drew ?_ | (with_reducible refine Below.setCell ?_ hg _) | (with_reducible refine Below.alloc ?_ (bw3.size) _))); done))
            clear hK K
            (try simp only [Act.put, List.setIfInBounds_toArray, List.set_cons_zero, List.set_cons_succ])
            refine wpAnyH_take (i := 15) (v := ?_) (arr_get rfl) (by kernel_rfl) (by kernel_rfl) (by kernel_rfl) (fun _ _ _ h => h) (Or.inl ⟨by rfl, ?_⟩) (by assumption) ?_
            rotate_left 1
            · (intro W hSw; (try dsimp only at hSw); go_simp; try with_reducible rfl)
            (try simp only [Act.put, List.setIfInBounds_toArray, List.set_cons_zero, List.set_cons_succ])
            refine wpAnyH_ready (rs := [16]) (by kernel_rfl) (by simp) ?_
            refine AllReadyH.cons (arr_get rfl) (fun K hK => ?_) ?_
            · go_simp
              (first | refine hK.out _ _ ?_ (fun hHeld => ?_) | (go_wp2_with fail; refine hK.out _ _ ?_ (fun hHeld => ?_)))
              · (try dsimp only); (first | with_reducible exact HE1 | with_reducible exact HE0 | ((refine keep6 zA zb x0 g0 g1 g2 g3 g4 ?_); (repeat (first | with_reducible exact bw4 | with_reducible exact bw3 | with_reducible exact hw | with_reducible exact hwr | with_reducible refine Below.drew ?_ | (with_reducible refine Below.setCell ?_ hg _) | (with_reducible refine Below.alloc ?_ (bw3.size) _))); done))
              clear hK K
              (try simp only [Act.put, List.setIfInBounds_toArray, List.set_cons_zero, List.set_cons_succ])
              refine wpAnyH_ready (rs := [17]) (by kernel_rfl) (by simp) ?_
              refine AllReadyH.cons (arr_get rfl) (fun K hK => ?_) ?_
              · ((with_reducible refine at_world (w3.alloc (.cells #[.string nm, .int .i64 y0, .string y1, .slice y2 y3 y4, .slice y5 y6 y7] 113)) ?_); refine step_ownP (vs := [.string nm, .int .i64 y0, .string y1, .slice y2 y3 y4, .slice y5 y6 y7]) (es := x.ds) hOd hb3 (by have := pa_seps (x := x) (by rw [HNM.out.1]; exact HNM.out.2) hs3; rw [HNM.out.1] at this; exact this) (.tmp 19) (.tmp 34) Tryz.underlying27 HJ.out.1 HJ.out.2.1 HJ.out.2.2.1 HJ.out.2.2.2 rfl (by decide) rfl (by simp [Value.oneCell']) (by unfold maxLen; omega) (by omega) ?_; intro v' w' ho' hb'; obtain ⟨A2, c2, rfl⟩ := ho'.form; have bG2 : Box w' g 32 [.slice AK q cK, .int .i64 z0, .string z1, .slice z2 z3 z4, .slice z5 z6 z7, .bool ay] := (hb'.block g hgl).trans bGd; have cg := bG2.cell; have fg := bG2.frozen; have lg := bG2.lt; have bw4 : Below w0.heap.size w0 w' := hw.trans (hb'.mono hs1); have HE1 := keep6 zA zb x0 g0 g1 g2 g3 g4 bw4)
                (first | refine hK.out _ _ ?_ (fun hHeld => ?_) | (go_wp2_with fail; refine hK.out _ _ ?_ (fun hHeld => ?_)))
                · (try dsimp only); (first | with_reducible exact HE1 | with_reducible exact HE0 | ((refine keep6 zA zb x0 g0 g1 g2 g3 g4 ?_); (repeat (first | with_reducible exact bw4 | with_reducible exact bw3 | with_reducible exact hw | with_reducible exact hwr | with_reducible refine Below.drew ?_ | (with_reducible refine Below.setCell ?_ hg _) | (with_reducible refine Below.alloc ?_ (bw3.size) _))); done))
                clear hK K
                (try simp only [Act.put, List.setIfInBounds_toArray, List.set_cons_zero, List.set_cons_succ])
                refine wpAnyH_take (i := 18) (v := ?_) (arr_get rfl) (by kernel_rfl) (by kernel_rfl) (by kernel_rfl) (fun _ _ _ h => h) (Or.inl ⟨by rfl, ?_⟩) (by assumption) ?_
                rotate_left 1
                · (intro W hSw; (try dsimp only at hSw); go_simp; try with_reducible rfl)
                (try simp only [Act.put, List.setIfInBounds_toArray, List.set_cons_zero, List.set_cons_succ])
                refine wpAnyH_ready (rs := [19]) (by kernel_rfl) (by simp) ?_
                refine AllReadyH.cons (arr_get rfl) (fun K hK => ?_) ?_
                · go_simp
                  (first | refine hK.out _ _ ?_ (fun hHeld => ?_) | (go_wp2_with fail; refine hK.out _ _ ?_ (fun hHeld => ?_)))
                  · (try dsimp only); (first | with_reducible exact HE1 | with_reducible exact HE0 | ((refine keep6 zA zb x0 g0 g1 g2 g3 g4 ?_); (repeat (first | with_reducible exact bw4 | with_reducible exact bw3 | with_reducible exact hw | with_reducible exact hwr | with_reducible refine Below.drew ?_ | (with_reducible refine Below.setCell ?_ hg _) | (with_reducible refine Below.alloc ?_ (bw3.size) _))); done))
                  clear hK K
                  (try simp only [Act.put, List.setIfInBounds_toArray, List.set_cons_zero, List.set_cons_succ])
                  refine wpAnyH_done (by kernel_rfl) ?_ _
                  have HON := Lib.hid (ho'.set (p := ⟨g, 0, none⟩) hgl (.slice A2 (q + 1) c2))
                  have HBN := Lib.hid (show Box (w'.setCell ⟨g, 0, none⟩ (.slice A2 (q + 1) c2)) g 32 [.slice A2 (q + 1) c2, .int .i64 z0, .string z1, .slice z2 z3 z4, .slice z5 z6 z7, .bool ay] from bG2.set 0 _)
                  have HKN := Lib.hid (show ∀ b, b < W1.heap.size → b ≠ g → (w'.setCell ⟨g, 0, none⟩ (.slice A2 (q + 1) c2)).heap[b]? = W1.heap[b]? from fun b h1 h2 => ((Below.heap_setCell _ _ _ _ h2).trans (hb'.block b h1)).trans (HKP.out.1 b h1 h2))
                  have HWN := Lib.hid (show Below w0.heap.size w0 (w'.setCell ⟨g, 0, none⟩ (.slice A2 (q + 1) c2)) from (HKP.out.2.trans (hb'.mono hs1)).setCell hg _)
                  clear kA kG g0 g1 g2 g3 g4 cg fg lg bG2 bGd hOd ho' hb' bw3 bw4 HE0 HE1 hw hwr x0 c9 l9 bG3 hs3 hb3
                  go_wp2
                  go_roundw
                  case rel => exact ⟨q + 1, _, by omega, by go_num, HBN.out, by rw [HN.out]; exact HON.out, HKN.out, HWN.out⟩
                  case measure => simp [intOf]; omega
                exact AllReadyH.nil
              exact AllReadyH.nil
            exact AllReadyH.nil
          exact AllReadyH.nil
        refine AllReadyH.cons (arr_get rfl) (fun K hK => ?_) ?_
        · (go_simp; go_at_call 75; ((with_reducible refine HC.out.mono ?_); rintro e w3 ⟨cs3, rfl, hs3, hb3⟩; obtain ⟨y0, y1, y2, y3, y4, y5, y6, y7, rfl⟩ := Ty.form hs3.ats; have bG3 := Box.call (w := wr.drew) bGd hb3; have c9 := bG3.cell; have l9 := bG3.lt; have bw3 : Below w0.heap.size w0 w3 := hw.trans (hb3.mono hw.size); have HE0 := keep6 zA zb x0 g0 g1 g2 g3 g4 bw3))
          (first | refine hK.out _ _ ?_ (fun hHeld => ?_) | (go_wp2_with fail; refine hK.out _ _ ?_ (fun hHeld => ?_)))
          · (try dsimp only); (first | with_reducible exact HE1 | with_reducible exact HE0 | ((refine keep6 zA zb x0 g0 g1 g2 g3 g4 ?_); (repeat (first | with_reducible exact bw4 | with_reducible exact bw3 | with_reducible exact hw | with_reducible exact hwr | with_reducible refine Below.drew ?_ | (with_reducible refine Below.setCell ?_ hg _) | (with_reducible refine Below.alloc ?_ (bw3.size) _))); done))
          clear hK K
          (try simp only [Act.put, List.setIfInBounds_toArray, List.set_cons_zero, List.set_cons_succ])
          refine wpAnyH_take (i := 15) (v := ?_) (arr_get rfl) (by kernel_rfl) (by kernel_rfl) (by kernel_rfl) (fun _ _ _ h => h) (Or.inl ⟨by rfl, ?_⟩) (by assumption) ?_
          rotate_left 1
          · (intro W hSw; (try dsimp only at hSw); go_simp; try with_reducible rfl)
          (try simp only [Act.put, List.setIfInBounds_toArray, List.set_cons_zero, List.set_cons_succ])
          refine wpAnyH_ready (rs := [1, 16]) (by kernel_rfl) (by simp) ?_
          refine AllReadyH.cons (arr_get rfl) (fun K hK => ?_) ?_
          · go_simp
            (first | refine hK.out _ _ ?_ (fun hHeld => ?_) | (go_wp2_with fail; refine hK.out _ _ ?_ (fun hHeld => ?_)))
            · (try dsimp only); (first | with_reducible exact HE1 | with_reducible exact HE0 | ((refine keep6 zA zb x0 g0 g1 g2 g3 g4 ?_); (repeat (first | with_reducible exact bw4 | with_reducible exact bw3 | with_reducible exact hw | with_reducible exact hwr | with_reducible refine Below.drew ?_ | (with_reducible refine Below.setCell ?_ hg _) | (with_reducible refine Below.alloc ?_ (bw3.size) _))); done))
            clear hK K
            (try simp only [Act.put, List.setIfInBounds_toArray, List.set_cons_zero, List.set_cons_succ])
            refine wpAnyH_ready (rs := [16]) (by kernel_rfl) (by simp) ?_
            refine AllReadyH.cons (arr_get rfl) (fun K hK => ?_) ?_
            · go_simp
              (first | refine hK.out _ _ ?_ (fun hHeld => ?_) | (go_wp2_with fail; refine hK.out _ _ ?_ (fun hHeld => ?_)))
              · (try dsimp only); (first | with_reducible exact HE1 | with_reducible exact HE0 | ((refine keep6 zA zb x0 g0 g1 g2 g3 g4 ?_); (repeat (first | with_reducible exact bw4 | with_reducible exact bw3 | with_reducible exact hw | with_reducible exact hwr | with_reducible refine Below.drew ?_ | (with_reducible refine Below.setCell ?_ hg _) | (with_reducible refine Below.alloc ?_ (bw3.size) _))); done))
              clear hK K
              (try simp only [Act.put, List.setIfInBounds_toArray, List.set_cons_zero, List.set_cons_succ])
              refine wpAnyH_ready (rs := [17]) (by kernel_rfl) (by simp) ?_
              refine AllReadyH.cons (arr_get rfl) (fun K hK => ?_) ?_
              · ((with_reducible refine at_world (w3.alloc (.cells #[.string nm, .int .i64 y0, .string y1, .slice y2 y3 y4, .slice y5 y6 y7] 113)) ?_); refine step_ownP (vs := [.string nm, .int .i64 y0, .string y1, .slice y2 y3 y4, .slice y5 y6 y7]) (es := x.ds) hOd hb3 (by have := pa_seps (x := x) (by rw [HNM.out.1]; exact HNM.out.2) hs3; rw [HNM.out.1] at this; exact this) (.tmp 19) (.tmp 34) Tryz.underlying27 HJ.out.1 HJ.out.2.1 HJ.out.2.2.1 HJ.out.2.2.2 rfl (by decide) rfl (by simp [Value.oneCell']) (by unfold maxLen; omega) (by omega) ?_; intro v' w' ho' hb'; obtain ⟨A2, c2, rfl⟩ := ho'.form; have bG2 : Box w' g 32 [.slice AK q cK, .int .i64 z0, .string z1, .slice z2 z3 z4, .slice z5 z6 z7, .bool ay] := (hb'.block g hgl).trans bGd; have cg := bG2.cell; have fg := bG2.frozen; have lg := bG2.lt; have bw4 : Below w0.heap.size w0 w' := hw.trans (hb'.mono hs1); have HE1 := keep6 zA zb x0 g0 g1 g2 g3 g4 bw4)
                (first | refine hK.out _ _ ?_ (fun hHeld => ?_) | (go_wp2_with fail; refine hK.out _ _ ?_ (fun hHeld => ?_)))
                · (try dsimp only); (first | with_reducible exact HE1 | with_reducible exact HE0 | ((refine keep6 zA zb x0 g0 g1 g2 g3 g4 ?_); (repeat (first | with_reducible exact bw4 | with_reducible exact bw3 | with_reducible exact hw | with_reducible exact hwr | with_reducible refine Below.drew ?_ | (with_reducible refine Below.setCell ?_ hg _) | (with_reducible refine Below.alloc ?_ (bw3.size) _))); done))
                clear hK K
                (try simp only [Act.put, List.setIfInBounds_toArray, List.set_cons_zero, List.set_cons_succ])
                refine wpAnyH_take (i := 18) (v := ?_) (arr_get rfl) (by kernel_rfl) (by kernel_rfl) (by kernel_rfl) (fun _ _ _ h => h) (Or.inl ⟨by rfl, ?_⟩) (by assumption) ?_
                rotate_left 1
                · (intro W hSw; (try dsimp only at hSw); go_simp; try with_reducible rfl)
                (try simp only [Act.put, List.setIfInBounds_toArray, List.set_cons_zero, List.set_cons_succ])
                refine wpAnyH_ready (rs := [19]) (by kernel_rfl) (by simp) ?_
                refine AllReadyH.cons (arr_get rfl) (fun K hK => ?_) ?_
                · go_simp
                  (first | refine hK.out _ _ ?_ (fun hHeld => ?_) | (go_wp2_with fail; refine hK.out _ _ ?_ (fun hHeld => ?_)))
                  · (try dsimp only); (first | with_reducible exact HE1 | with_reducible exact HE0 | ((refine keep6 zA zb x0 g0 g1 g2 g3 g4 ?_); (repeat (first | with_reducible exact bw4 | with_reducible exact bw3 | with_reducible exact hw | with_reducible exact hwr | with_reducible refine Below.drew ?_ | (with_reducible refine Below.setCell ?_ hg _) | (with_reducible refine Below.alloc ?_ (bw3.size) _))); done))
                  clear hK K
                  (try simp only [Act.put, List.setIfInBounds_toArray, List.set_cons_zero, List.set_cons_succ])
                  refine wpAnyH_done (by kernel_rfl) ?_ _
                  have HON := Lib.hid (ho'.set (p := ⟨g, 0, none⟩) hgl (.slice A2 (q + 1) c2))
                  have HBN := Lib.hid (show Box (w'.setCell ⟨g, 0, none⟩ (.slice A2 (q + 1) c2)) g 32 [.slice A2 (q + 1) c2, .int .i64 z0, .string z1, .slice z2 z3 z4, .slice z5 z6 z7, .bool ay] from bG2.set 0 _)
                  have HKN := Lib.hid (show ∀ b, b < W1.heap.size → b ≠ g → (w'.setCell ⟨g, 0, none⟩ (.slice A2 (q + 1) c2)).heap[b]? = W1.heap[b]? from fun b h1 h2 => ((Below.heap_setCell _ _ _ _ h2).trans (hb'.block b h1)).trans (HKP.out.1 b h1 h2))
                  have HWN := Lib.hid (show Below w0.heap.size w0 (w'.setCell ⟨g, 0, none⟩ (.slice A2 (q + 1) c2)) from (HKP.out.2.trans (hb'.mono hs1)).setCell hg _)
                  clear kA kG g0 g1 g2 g3 g4 cg fg lg bG2 bGd hOd ho' hb' bw3 bw4 HE0 HE1 hw hwr x0 c9 l9 bG3 hs3 hb3
                  go_wp2
                  go_roundw
                  case rel => exact ⟨q + 1, _, by omega, by go_num, HBN.out, by rw [HN.out]; exact HON.out, HKN.out, HWN.out⟩
                  case measure => simp [intOf]; omega
                exact AllReadyH.nil
              exact AllReadyH.nil
            exact AllReadyH.nil
          refine AllReadyH.cons (arr_get rfl) (fun K hK => ?_) ?_
          · go_simp
            (first | refine hK.out _ _ ?_ (fun hHeld => ?_) | (go_wp2_with fail; refine hK.out _ _ ?_ (fun hHeld => ?_)))
            · (try dsimp only); (first | with_reducible exact HE1 | with_reducible exact HE0 | ((refine keep6 zA zb x0 g0 g1 g2 g3 g4 ?_); (repeat (first | with_reducible exact bw4 | with_reducible exact bw3 | with_reducible exact hw | with_reducible exact hwr | with_reducible refine Below.drew ?_ | (with_reducible refine Below.setCell ?_ hg _) | (with_reducible refine Below.alloc ?_ (bw3.size) _))); done))
            clear hK K
            (try simp only [Act.put, List.setIfInBounds_toArray, List.set_cons_zero, List.set_cons_succ])
            refine wpAnyH_ready (rs := [1]) (by kernel_rfl) (by simp) ?_
            refine AllReadyH.cons (arr_get rfl) (fun K hK => ?_) ?_
            · go_simp
              (first | refine hK.out _ _ ?_ (fun hHeld => ?_) | (go_wp2_with fail; refine hK.out _ _ ?_ (fun hHeld => ?_)))
              · (try dsimp only); (first | with_reducible exact HE1 | with_reducible exact HE0 | ((refine keep6 zA zb x0 g0 g1 g2 g3 g4 ?_); (repeat (first | with_reducible exact bw4 | with_reducible exact bw3 | with_reducible exact hw | with_reducible exact hwr | with_reducible refine Below.drew ?_ | (with_reducible refine Below.setCell ?_ hg _) | (with_reducible refine Below.alloc ?_ (bw3.size) _))); done))
              clear hK K
              (try simp only [Act.put, List.setIfInBounds_toArray, List.set_cons_zero, List.set_cons_succ])
              refine wpAnyH_ready (rs := [17]) (by kernel_rfl) (by simp) ?_
              refine AllReadyH.cons (arr_get rfl) (fun K hK => ?_) ?_
              · ((with_reducible refine at_world (w3.alloc (.cells #[.string nm, .int .i64 y0, .string y1, .slice y2 y3 y4, .slice y5 y6 y7] 113)) ?_); refine step_ownP (vs := [.string nm, .int .i64 y0, .string y1, .slice y2 y3 y4, .slice y5 y6 y7]) (es := x.ds) hOd hb3 (by have := pa_seps (x := x) (by rw [HNM.out.1]; exact HNM.out.2) hs3; rw [HNM.out.1] at this; exact this) (.tmp 19) (.tmp 34) Tryz.underlying27 HJ.out.1 HJ.out.2.1 HJ.out.2.2.1 HJ.out.2.2.2 rfl (by decide) rfl (by simp [Value.oneCell']) (by unfold maxLen; omega) (by omega) ?_; intro v' w' ho' hb'; obtain ⟨A2, c2, rfl⟩ := ho'.form; have bG2 : Box w' g 32 [.slice AK q cK, .int .i64 z0, .string z1, .slice z2 z3 z4, .slice z5 z6 z7, .bool ay] := (hb'.block g hgl).trans bGd; have cg := bG2.cell; have fg := bG2.frozen; have lg := bG2.lt; have bw4 : Below w0.heap.size w0 w' := hw.trans (hb'.mono hs1); have HE1 := keep6 zA zb x0 g0 g1 g2 g3 g4 bw4)
                (first | refine hK.out _ _ ?_ (fun hHeld => ?_) | (go_wp2_with fail; refine hK.out _ _ ?_ (fun hHeld => ?_)))
                · (try dsimp only); (first | with_reducible exact HE1 | with_reducible exact HE0 | ((refine keep6 zA zb x0 g0 g1 g2 g3 g4 ?_); (repeat (first | with_reducible exact bw4 | with_reducible exact bw3 | with_reducible exact hw | with_reducible exact hwr | with_reducible refine Below.drew ?_ | (with_reducible refine Below.setCell ?_ hg _) | (with_reducible refine Below.alloc ?_ (bw3.size) _))); done))
                clear hK K
                (try simp only [Act.put, List.setIfInBounds_toArray, List.set_cons_zero, List.set_cons_succ])
                refine wpAnyH_take (i := 18) (v := ?_) (arr_get rfl) (by kernel_rfl) (by kernel_rfl) (by kernel_rfl) (fun _ _ _ h => h) (Or.inl ⟨by rfl, ?_⟩) (by assumption) ?_
                rotate_left 1
                · (intro W hSw; (try dsimp only at hSw); go_simp; try with_reducible rfl)
                (try simp only [Act.put, List.setIfInBounds_toArray, List.set_cons_zero, List.set_cons_succ])
                refine wpAnyH_ready (rs := [19]) (by kernel_rfl) (by simp) ?_
                refine AllReadyH.cons (arr_get rfl) (fun K hK => ?_) ?_
                · go_simp
                  (first | refine hK.out _ _ ?_ (fun hHeld => ?_) | (go_wp2_with fail; refine hK.out _ _ ?_ (fun hHeld => ?_)))
                  · (try dsimp only); (first | with_reducible exact HE1 | with_reducible exact HE0 | ((refine keep6 zA zb x0 g0 g1 g2 g3 g4 ?_); (repeat (first | with_reducible exact bw4 | with_reducible exact bw3 | with_reducible exact hw | with_reducible exact hwr | with_reducible refine Below.drew ?_ | (with_reducible refine Below.setCell ?_ hg _) | (with_reducible refine Below.alloc ?_ (bw3.size) _))); done))
                  clear hK K
                  (try simp only [Act.put, List.setIfInBounds_toArray, List.set_cons_zero, List.set_cons_succ])
                  refine wpAnyH_done (by kernel_rfl) ?_ _
                  have HON := Lib.hid (ho'.set (p := ⟨g, 0, none⟩) hgl (.slice A2 (q + 1) c2))
                  have HBN := Lib.hid (show Box (w'.setCell ⟨g, 0, none⟩ (.slice A2 (q + 1) c2)) g 32 [.slice A2 (q + 1) c2, .int .i64 z0, .string z1, .slice z2 z3 z4, .slice z5 z6 z7, .bool ay] from bG2.set 0 _)
                  have HKN := Lib.hid (show ∀ b, b < W1.heap.size → b ≠ g → (w'.setCell ⟨g, 0, none⟩ (.slice A2 (q + 1) c2)).heap[b]? = W1.heap[b]? from fun b h1 h2 => ((Below.heap_setCell _ _ _ _ h2).trans (hb'.block b h1)).trans (HKP.out.1 b h1 h2))
                  have HWN := Lib.hid (show Below w0.heap.size w0 (w'.setCell ⟨g, 0, none⟩ (.slice A2 (q + 1) c2)) from (HKP.out.2.trans (hb'.mono hs1)).setCell hg _)
                  clear kA kG g0 g1 g2 g3 g4 cg fg lg bG2 bGd hOd ho' hb' bw3 bw4 HE0 HE1 hw hwr x0 c9 l9 bG3 hs3 hb3
                  go_wp2
                  go_roundw
                  case rel => exact ⟨q + 1, _, by omega, by go_num, HBN.out, by rw [HN.out]; exact HON.out, HKN.out, HWN.out⟩
                  case measure => simp [intOf]; omega
                exact AllReadyH.nil
              exact AllReadyH.nil
            exact AllReadyH.nil
          exact AllReadyH.nil
        exact AllReadyH.nil
      · obtain rfl : q = ps.length := by omega
        have hD := hO.done (fun h0 => by rw [List.take_length, List.eq_nil_of_length_eq_zero h0]; rfl)
        rw [List.take_length] at hD
        have HD := Lib.hid hD
        have HKP := Lib.hid (And.intro hkp hb)
        have bR : Box wr (w.heap.size + 1) 32 [.slice none 0 0, .int .i64 0, .string ⟨#[]⟩, .slice none 0 0, .slice none 0 0, .bool false] := (hb.block _ zR).trans HB1.out.2.2
        have kA := bA.cell
        have kG := bG.cell
        have kR := bR.cell
        have fR := bR.frozen
        have lR := bR.lt
        clear hD hO hkp hb
        go_wp2
        refine bodyPost_ret (v := .agg #[.slice AK ps.length cK, .int .i64 z0, .string z1, .slice z2 z3 z4, .slice z5 z6 z7, .bool ay]) (by simp [results, Tryz.results35, go_sem, kR]) rfl ⟨[.slice AK ps.length cK, .int .i64 z0, .string z1, .slice z2 z3 z4, .slice z5 z6 z7, .bool ay], rfl, ?_, ?_⟩
        · have h3 : ∀ b ∈ bl, b ≠ w.heap.size + 1 := fun b hb => by have := HS1.out.2.2 b hb; have := HS0.out; omega
          have hsz := HKP.out.2.size
          refine fn_end (w := wr) (B := W1.heap.size) (cs := [.int .i64 z0, .string z1, .slice z2 z3 z4, .slice z5 z6 z7]) (D.Seps.keep _ _ _ (fun b hb => HKP.out.1 b (HS1.out.2.2 b hb).2.1 (HS1.out.2.2 b hb).2.2) HS1.out.1) HS1.out.2.1 (fun b hb => ⟨by have := HS1.out.2.2 b hb; have := HS0.out; omega, (HS1.out.2.2 b hb).2.1⟩) (by have := HS0.out; omega) HD.out (by simp [World.setCell]) (fun b hb => ?_)
          have hne : b ≠ w.heap.size + 1 := by
            rcases hb with hb | hb
            · exact h3 b hb
            · have := HS0.out; omega
          rw [Below.heap_setCell _ _ _ _ hne, Below.heap_setCell _ _ _ _ hne, Below.heap_setCell _ _ _ _ hne, Below.heap_setCell _ _ _ _ hne, Below.heap_setCell _ _ _ _ hne, Below.heap_setCell _ _ _ _ hne]
        · have := HB1.out.1.trans (HKP.out.2.mono HB1.out.1.size)
          with_reducible refine Below.setCell (Below.setCell (Below.setCell (Below.setCell (Below.setCell (Below.setCell ?_ ?_ _) ?_ _) ?_ _) ?_ _) ?_ _) ?_ _
          · exact this
          all_goals exact Nat.le_succ _
end Go.Proofs.YtpfkhojhkjaafaaGreatDoor
namespace Go.Proofs.YtpfkhojhkjaafaaGreatDoor
open Go.RowKit

theorem own_low {w : World} {base base' : Nat} {e : TypeId} {size n : Nat} {v : Value} {xs : List Value} (h : w.ownsRow base e size v n xs) (hb : base' ≤ base) : w.ownsRow base' e size v n xs := by
  refine ⟨h.1, ?_⟩
  rcases h.2 with h | ⟨g, cap, cur, e1, e2, e3⟩
  · exact .inl h
  · exact .inr ⟨g, cap, cur, e1, Nat.le_trans hb e2, e3⟩
theorem clone_i (l : List ByteArray) (A : Option Addr) (c : Nat) (w : World) (hv : D.At w anyB (strs l) (.slice A l.length c)) (hl : l.length ≤ 4194304) :
    Calls Tryz.prog 135 #[.slice A l.length c] w fun e w' => ∃ v', e = .returned v' ∧ w'.ownsRow w.heap.size 9 1 v' l.length (l.map Value.string) ∧ Below w.heap.size w w' := by
  rcases Nat.eq_zero_or_pos l.length with h0 | h0
  · have hR : l = [] := List.eq_nil_of_length_eq_zero h0
    subst hR
    cases A with
    | none =>
      refine (Tryz.slices_Clone_string_nil 0 c w).mono ?_
      rintro e w' ⟨rfl, rfl⟩
      exact ⟨_, rfl, World.ownsRow_nil _ _ _ _, Below.refl _ _⟩
    | some a =>
      refine (Tryz.slices_Clone_string_zero a c w).mono ?_
      rintro e w' ⟨v', rfl, h1, -, h2⟩
      exact ⟨v', rfl, h1, h2⟩
  · unfold strs rows at hv
    simp only [D.At] at hv
    obtain ⟨A', cap', xs, hv, h1, h2, h3, h4, h5⟩ := hv
    injection hv with e1 e2 e3
    subst e1 e3
    obtain ⟨rfl, -⟩ := strs_xs h5
    obtain ⟨b, off, rfl, -, hbl, hc⟩ := h4 h0
    refine (Tryz.slices_Clone_string b off l.length c l w (Nat.le_refl _) (by omega) (fun j hj => ?_)).mono ?_
    · rw [hc j (.string l[j]) (by simp [hj])]
      simp [List.getD, hj]
    · rintro e w' ⟨v', rfl, h1, -, h2⟩
      rw [List.take_length] at h1
      exact ⟨v', rfl, h1, h2⟩
end Go.Proofs.YtpfkhojhkjaafaaGreatDoor
namespace Go.Proofs.YtpfkhojhkjaafaaGreatDoor
open Go.RowKit

theorem OwnP.lit2 (w : World) (e : TypeId) (size : Nat) : OwnP (w.alloc (.cells #[] e)) w.heap.size e size (.slice (some ⟨w.heap.size, 0, none⟩) 0 0) 0 [] :=
  ⟨by simp, [], [], ⟨by simp, .inr ⟨w.heap.size, 0, #[], rfl, Nat.le_refl _, heap_alloc_new w _, Nat.le_refl _, Nat.zero_le _, by simp, by simp⟩⟩, D.Seps.nil, List.nodup_nil, fun b hb => by cases hb⟩
set_option maxHeartbeats 4000000 in
set_option maxRecDepth 20000 in
theorem copyTypes_i (l : List Ty) (hl : ∀ x ∈ l, OwnTo 88 x) (v : Value) (w : World) (hv : D.At w anyB (rows Ty.ds 4 l) v) (hge : l.length ≤ 4194304) (hnd : ∀ x ∈ l, D.totals x.ds ≤ 4194304) : Calls Tryz.prog 136 #[v] w (RetS (rows Ty.ds 4 l) w) := by
  obtain ⟨A, cap, rfl, hn, hc⟩ := rows_form Ty.len hv
  unfold maxLen at hc
  have HV := Lib.hid hv
  have HL := Lib.hid hl
  have HN0 := Lib.hid hnd
  obtain ⟨j0, hj, hy0, hy1, hy2⟩ := info_parts info_tType
  have HJ := Lib.hid (And.intro hj (And.intro hy0 (And.intro hy1 hy2)))
  have HO0 := Lib.hid (OwnP.lit2 w 30 4)
  clear hv hl hj hy0 hy1 hy2 hnd
  go_enter Tryz.func136, Tryz.ntmps136
  go_wp2
  go_loopw [3, 9] (fun o i wr => ∃ q : Nat, q ≤ l.length ∧ i = .int .i64 q ∧ OwnP wr w.heap.size 30 4 o q ((l.take q).flatMap Ty.ds) ∧ Below w.heap.size w wr) (fun _ i _ => l.length - (intOf i).toNat)
  case atStart => exact ⟨0, Nat.zero_le _, rfl, by rw [List.take_zero]; exact HO0.out, (Below.refl _ _).alloc (Nat.le_refl _) _⟩
  case round =>
    obtain ⟨q, hq, rfl, hO, hb⟩ := hrel
    obtain ⟨AO, cO, rfl⟩ := hO.form
    by_cases hlt : q < l.length
    · obtain ⟨x, hx⟩ : ∃ x, l[q]? = some x := ⟨l[q], List.getElem?_eq_getElem hlt⟩
      have i0 : (0 : Int) ≤ (q : Int) := by omega
      have i1 : (q : Int) < (l.length : Int) := by omega
      obtain ⟨b, off, u0, u1, u2, u3, e, -, hbl, hat, d0, d1, d2, d3⟩ := rows_at4 Ty.len (HV.out.below hb) hx
      subst e
      obtain ⟨f0, f1, f2, f3, f4, f5, f6, f7, exx⟩ := Ty.form hat
      simp only [List.cons.injEq, and_true] at exx
      obtain ⟨rfl, rfl, rfl, rfl⟩ := exx
      have hxm := List.mem_of_getElem? hx
      have hN0 := HN0.out x hxm
      have hq2 : q + 1 ≤ 4194304 := by omega
      obtain ⟨w1, hw1⟩ : ∃ w1, w1 = wr.alloc (.cells #[.int .i64 f0, .string f1, .slice f2 f3 f4, .slice f5 f6 f7] 30) := ⟨_, rfl⟩
      have hb1 : Below wr.heap.size wr w1 := by rw [hw1]; exact (Below.refl _ _).alloc (Nat.le_refl _) _
      have HC := Lib.hid (HL.out x hxm _ w1 (hat.below hb1) hN0)
      have HO1 := Lib.hid (hO.below hb1)
      have HB1 := Lib.hid (hb.trans (hb1.mono hb.size))
      have HN := Lib.hid (take_next (f := Ty.ds) hx)
      have bX : Box w1 wr.heap.size 30 [.int .i64 f0, .string f1, .slice f2 f3 f4, .slice f5 f6 f7] := by rw [hw1]; exact Box.new wr _ _
      have kX := bX.cell
      clear hx hxm hat hO hb hN0 hb1
      go_upto_region 5 with fail
      rw [← hw1]
      clear hw1 d0 d1 d2 d3 bX
      go_wp2_with fail
      refine HC.out.mono ?_
      rintro e w3 ⟨cs3, rfl, hs3, hb3⟩
      obtain ⟨z0, z1, z2, z3, z4, z5, z6, z7, rfl⟩ := Ty.form hs3.ats
      have hO1 := HO1.out
      clear kX
      go_wp2_with (at_builtin; refine wpList_ownP (vs := [.int .i64 z0, .string z1, .slice z2 z3 z4, .slice z5 z6 z7]) hO1 hb3 hs3 (.tmp 13) (.tmp 16) Tryz.underlying28 HJ.out.1 HJ.out.2.1 HJ.out.2.2.1 HJ.out.2.2.2 rfl (by decide) rfl (by simp [Value.oneCell']) (by unfold maxLen; omega) (by omega) ?_; intro v' w' ho' hb')
      have HON := Lib.hid (show OwnP w' w.heap.size 30 4 v' (q + 1) ((l.take (q + 1)).flatMap Ty.ds) by rw [HN.out]; exact ho')
      have HBN := Lib.hid (HB1.out.trans hb')
      clear ho' hb' hO1 hs3 hb3
      go_wp2
      go_roundw
      case rel => exact ⟨q + 1, by omega, by go_num, HON.out, HBN.out⟩
      case measure => simp [intOf]; omega
    · obtain rfl : q = l.length := by omega
      rw [List.take_length] at hO
      have HD := Lib.hid (hO.done (fun h => by rw [List.eq_nil_of_length_eq_zero h]; rfl))
      have HB := Lib.hid hb
      clear hO hb
      go_wp2
      go_ret
      exact ⟨_, rfl, HD.out, HB.out⟩
theorem kept4t {w0 W : World} {h : Nat} {a b c d : Value} (zA : h < w0.heap.size) (e0 : w0.cell? ⟨h, 0, none⟩ = some a) (e1 : w0.cell? ⟨h, 1, none⟩ = some b) (e2 : w0.cell? ⟨h, 2, none⟩ = some c) (e3 : w0.cell? ⟨h, 3, none⟩ = some d) (G : Below w0.heap.size w0 W) :
    W.cell? ⟨h, 0, none⟩ = some a ∧ W.cell? ⟨h, 1, none⟩ = some b ∧ W.cell? ⟨h, 2, none⟩ = some c ∧ W.cell? ⟨h, 3, none⟩ = some d :=
  ⟨(G.cell (p := ⟨h, 0, none⟩) zA).trans e0, (G.cell (p := ⟨h, 1, none⟩) zA).trans e1, (G.cell (p := ⟨h, 2, none⟩) zA).trans e2, (G.cell (p := ⟨h, 3, none⟩) zA).trans e3⟩
theorem kept4u {W : World} {h o : Nat} {u a b c d : Value} (e : W.cell? ⟨h, 0, none⟩ = some a ∧ W.cell? ⟨h, 1, none⟩ = some b ∧ W.cell? ⟨h, 2, none⟩ = some c ∧ W.cell? ⟨h, 3, none⟩ = some d) :
    (W.setCell ⟨h + 1, o, none⟩ u).cell? ⟨h, 0, none⟩ = some a ∧ (W.setCell ⟨h + 1, o, none⟩ u).cell? ⟨h, 1, none⟩ = some b ∧ (W.setCell ⟨h + 1, o, none⟩ u).cell? ⟨h, 2, none⟩ = some c ∧ (W.setCell ⟨h + 1, o, none⟩ u).cell? ⟨h, 3, none⟩ = some d := by
  have hk : ∀ j, (W.setCell ⟨h + 1, o, none⟩ u).cell? ⟨h, j, none⟩ = W.cell? ⟨h, j, none⟩ := fun j => by
    unfold World.cell?
    rw [Below.heap_setCell W ⟨h + 1, o, none⟩ u h (by simp)]
  rw [hk, hk, hk, hk]
  exact e
set_option maxHeartbeats 4000000 in
set_option maxRecDepth 20000 in
theorem copyType_i (x : Ty) : OwnTo 88 x := by
  refine Ty.ind (fun k n l kids ih => ?_) x
  intro cs w hcs ht
  obtain ⟨A, c, A', c', rfl, hk, hn, hl, hkids⟩ := Ty.open_ hcs
  obtain ⟨hl4, hk4, hkt⟩ := own_sizes ht
  have HSM := Lib.hid (strs_small hl)
  have hlm : l.length ≤ maxLen := by unfold maxLen; omega
  obtain ⟨w0, hw0⟩ : ∃ w0, w0 = (w.alloc (.cells #[.int .i64 k, .string n, .slice A l.length c, .slice A' kids.length c'] 30)).alloc (.cells #[.int .i64 0, .string ⟨#[]⟩, .slice none 0 0, .slice none 0 0] 30) := ⟨_, rfl⟩
  have bA : Box w0 w.heap.size 30 [.int .i64 k, .string n, .slice A l.length c, .slice A' kids.length c'] := by rw [hw0]; exact (Box.new w _ _).alloc _
  have bR : Box w0 (w.heap.size + 1) 30 [.int .i64 0, .string ⟨#[]⟩, .slice none 0 0, .slice none 0 0] := by rw [hw0]; have := Box.new (w.alloc (.cells #[.int .i64 k, .string n, .slice A l.length c, .slice A' kids.length c'] 30)) 30 [.int .i64 0, .string ⟨#[]⟩, .slice none 0 0, .slice none 0 0]; simpa using this
  have B0 : Below w.heap.size w w0 := by rw [hw0]; exact ((Below.refl _ _).alloc (Nat.le_refl _) _).alloc (by simp) _
  have hs0 : w0.heap.size = w.heap.size + 2 := by rw [hw0]; simp
  have HC1 := Lib.hid (clone_i l A c w0.drew ((hl.below B0).drew) hl4)
  have HV := Lib.hid (hkids.below B0)
  have HC2 := Lib.hid (fun W (h : Below w0.heap.size w0 W) => copyTypes_i kids ih (.slice A' kids.length c') W (HV.out.below h) hk4 hkt)
  have HP := Lib.hid (And.intro hk hn)
  have HB := Lib.hid B0
  have bRd : Box w0.drew (w.heap.size + 1) 30 [.int .i64 0, .string ⟨#[]⟩, .slice none 0 0, .slice none 0 0] := bR
  have HS0 := Lib.hid hs0
  have kA := bA.cell
  have kR := bR.cell
  have fR := bR.frozen
  have lR := bR.lt
  clear hcs hk hn hl hkids ht hkt hl4 hk4 ih bA bR B0
  change Calls Tryz.prog 88 #[.agg #[.int .i64 k, .string n, .slice A l.length c, .slice A' kids.length c']] w _
  go_enter Tryz.func88, Tryz.ntmps88
  go_upto_region 1 with fail
  rw [← hw0]
  clear hw0
  have a0 : w0.cell? ⟨w.heap.size, 0, none⟩ = some (.int .i64 k) := kA 0
  have a1 : w0.cell? ⟨w.heap.size, 1, none⟩ = some (.string n) := kA 1
  have a2 : w0.cell? ⟨w.heap.size, 2, none⟩ = some (.slice A l.length c) := kA 2
  have a3 : w0.cell? ⟨w.heap.size, 3, none⟩ = some (.slice A' kids.length c') := kA 3
  clear kA
  have zA : w.heap.size < w0.heap.size := by have := HS0.out; omega
  have K0 : Below w0.heap.size w0 w0.drew := (Below.refl _ w0).drew
  go_region_held3 (fun w' => w'.cell? ⟨w.heap.size, 0, none⟩ = some (.int .i64 k) ∧ w'.cell? ⟨w.heap.size, 1, none⟩ = some (.string n) ∧ w'.cell? ⟨w.heap.size, 2, none⟩ = some (.slice A l.length c) ∧ w'.cell? ⟨w.heap.size, 3, none⟩ = some (.slice A' kids.length c'))
      (first | with_reducible exact HE1 | with_reducible exact HE0 | ((repeat (with_reducible refine kept4u ?_)); with_reducible exact HE1) | ((refine kept4t zA a0 a1 a2 a3 ?_); (repeat (first | with_reducible exact K0 | with_reducible exact bw | with_reducible exact Below.refl _ _ | with_reducible refine Below.drew ?_)); done) | (trace_state; fail))
      (first
      | (go_at_call 135; ((with_reducible refine HC1.out.mono ?_); rintro e w3 ⟨v3, rfl, ho3, hb3⟩; have bw : Below w0.heap.size w0 w3 := K0.trans hb3; have HE0 := kept4t zA a0 a1 a2 a3 bw; obtain ⟨A3, n3, rfl⟩ := own_slice ho3))
      | (go_simp; go_at_call 136; ((with_reducible refine (HC2.out _ bw).mono ?_); rintro e w4 ⟨v4, rfl, hs4, hb4⟩; have bw4 : Below w0.heap.size w0 w4 := bw.trans (hb4.mono bw.size); have HE1 := kept4t zA a0 a1 a2 a3 bw4; have bR4 := (Box.call (w := w0.drew) bRd hb3).call hb4; have cR := bR4.cell; have gR := bR4.frozen; have mR := bR4.lt; obtain ⟨A4, n4, hv4, -, -⟩ := rows_form Ty.len hs4.at_; subst hv4)))
  all_goals
    have HE := Lib.hid (And.intro ho3 (And.intro hb3 (And.intro hs4 (And.intro hb4 bw4))))
    clear ho3 hb3 hs4 hb4 bw bw4 HE0 HE1 bRd kR fR lR bR4
    go_wp2
    refine bodyPost_ret (v := .agg #[.int .i64 k, .string n, .slice A3 l.length n3, .slice A4 kids.length n4]) (by simp [results, Tryz.results88, go_sem, cR]) rfl ⟨[.int .i64 k, .string n, .slice A3 l.length n3, .slice A4 kids.length n4], rfl, ?_, ?_⟩
    · rw [Ty.ds_eq]
      obtain ⟨ho3, hb3, hs4, hb4, bw4⟩ := HE.out
      have h2 : w0.drew.heap.size = w.heap.size + 2 := HS0.out
      have hz : w.heap.size + 1 < w0.drew.heap.size := by omega
      have s3 := hb3.size
      have s4 := hb4.size
      have hL := (own_textsIn ho3 HSM.out hlm s3).below hb4 (Nat.le_refl _)
      refine SepsIn.weaken (lo := w0.drew.heap.size) (hi := w4.heap.size) ?_ (by omega) (by simp [World.setCell])
      repeat (with_reducible refine SepsIn.set ?_ (Or.inl hz) _)
      exact SepsIn.cons (SepIn.int HP.out.1) (SepsIn.cons (SepIn.str HP.out.2) (SepsIn.cons hL (SepsIn.cons hs4 (SepsIn.nil (Nat.le_refl _)))))
    · have := HB.out.trans (HE.out.2.2.2.2.mono (by have := HS0.out; omega))
      repeat (first | exact this | with_reducible refine Below.setCell ?_ (by simp <;> omega) _)
end Go.Proofs.YtpfkhojhkjaafaaGreatDoor
namespace Go.Proofs.YtpfkhojhkjaafaaGreatDoor
open Go.RowKit

set_option maxHeartbeats 4000000 in
set_option maxRecDepth 20000 in
theorem copyFunc_i (x : Fn) : OwnFn 40 x := by
  intro cs w hcs ht
  obtain ⟨ps, r, ay⟩ := x
  obtain ⟨B, d, k, n, A, m, c, A', m', c', rfl, hps, hres⟩ := Fn.open_ hcs
  change D.At w anyB (rows Pa.ds 5 ps) (.slice B ps.length d) at hps
  change D.Ats w anyB r.ds [.int .i64 k, .string n, .slice A m c, .slice A' m' c'] at hres
  obtain ⟨-, hnp, hcp⟩ := rows_bound hps
  unfold maxLen at hcp
  obtain ⟨hp4, hrt, hpt⟩ := fn_sizes ht
  have HT := Lib.hid hpt
  obtain ⟨j0, hj, hy0, hy1, hy2⟩ := info_parts info_tParam
  have HJ := Lib.hid (And.intro hj (And.intro hy0 (And.intro hy1 hy2)))
  obtain ⟨w0, hw0⟩ : ∃ w0, w0 = (w.alloc (.cells #[.slice B ps.length d, .int .i64 k, .string n, .slice A m c, .slice A' m' c', .bool ay] 32)).alloc (.cells #[.slice none 0 0, .int .i64 0, .string ⟨#[]⟩, .slice none 0 0, .slice none 0 0, .bool false] 32) := ⟨_, rfl⟩
  have bA : Box w0 w.heap.size 32 [.slice B ps.length d, .int .i64 k, .string n, .slice A m c, .slice A' m' c', .bool ay] := by rw [hw0]; exact (Box.new w _ _).alloc _
  have bR : Box w0 (w.heap.size + 1) 32 [.slice none 0 0, .int .i64 0, .string ⟨#[]⟩, .slice none 0 0, .slice none 0 0, .bool false] := by rw [hw0]; have := Box.new (w.alloc (.cells #[.slice B ps.length d, .int .i64 k, .string n, .slice A m c, .slice A' m' c', .bool ay] 32)) 32 [.slice none 0 0, .int .i64 0, .string ⟨#[]⟩, .slice none 0 0, .slice none 0 0, .bool false]; simpa using this
  have B0 : Below w.heap.size w w0 := by rw [hw0]; exact ((Below.refl _ _).alloc (Nat.le_refl _) _).alloc (by simp) _
  have hs0 : w0.heap.size = w.heap.size + 2 := by rw [hw0]; simp
  have HV := Lib.hid (D.At.below hps B0)
  have HRS := Lib.hid (D.Ats.below hres B0)
  have HOWN := Lib.hid (fun W (h : Below w0.heap.size w0 W) => copyType_i r [.int .i64 k, .string n, .slice A m c, .slice A' m' c'] W (HRS.out.below h) hrt)
  have HS0 := Lib.hid hs0
  clear hcs hps hres ht hrt hpt hj hy0 hy1 hy2 hs0
  change Calls Tryz.prog 40 #[.agg #[.slice B ps.length d, .int .i64 k, .string n, .slice A m c, .slice A' m' c', .bool ay]] w _
  have kA := bA.cell
  go_enter Tryz.func40, Tryz.ntmps40
  go_upto_region 1 with fail
  rw [← hw0]
  clear hw0
  have a1 : w0.cell? ⟨w.heap.size, 1, none⟩ = some (.int .i64 k) := kA 1
  have a2 : w0.cell? ⟨w.heap.size, 2, none⟩ = some (.string n) := kA 2
  have a3 : w0.cell? ⟨w.heap.size, 3, none⟩ = some (.slice A m c) := kA 3
  have a4 : w0.cell? ⟨w.heap.size, 4, none⟩ = some (.slice A' m' c') := kA 4
  have a5 : w0.cell? ⟨w.heap.size, 5, none⟩ = some (.bool ay) := kA 5
  clear kA
  have zA := bA.lt
  go_cut [3] (fun s wx => ∃ (g : Nat) (z0 : Int) (z1 : ByteArray) (z2 : Option Addr) (z3 z4 : Nat) (z5 : Option Addr) (z6 z7 : Nat), s = .pointer (some ⟨g, 0, none⟩) ∧ w0.heap.size ≤ g ∧ Box wx g 32 [.slice none 0 0, .int .i64 z0, .string z1, .slice z2 z3 z4, .slice z5 z6 z7, .bool ay] ∧ (∃ bl, D.Seps wx r.ds bl [.int .i64 z0, .string z1, .slice z2 z3 z4, .slice z5 z6 z7] ∧ bl.Nodup ∧ ∀ b ∈ bl, w0.heap.size ≤ b ∧ b < wx.heap.size ∧ b ≠ g) ∧ Below w0.heap.size w0 wx)
  case first =>
    have K0 : Below w0.heap.size w0 w0.drew := (Below.refl _ w0).drew
    have m3 : Below w0.heap.size w0 (w0.alloc (.cells #[.slice none 0 0, .int .i64 0, .string ⟨#[]⟩, .slice none 0 0, .slice none 0 0, .bool false] 32)).drew := ((Below.refl _ w0).alloc (Nat.le_refl _) _).drew
    have b3 : Box (w0.alloc (.cells #[.slice none 0 0, .int .i64 0, .string ⟨#[]⟩, .slice none 0 0, .slice none 0 0, .bool false] 32)).drew w0.heap.size 32 [.slice none 0 0, .int .i64 0, .string ⟨#[]⟩, .slice none 0 0, .slice none 0 0, .bool false] := Box.new w0 _ [.slice none 0 0, .int .i64 0, .string ⟨#[]⟩, .slice none 0 0, .slice none 0 0, .bool false]
    have s3 : (w0.alloc (.cells #[.slice none 0 0, .int .i64 0, .string ⟨#[]⟩, .slice none 0 0, .slice none 0 0, .bool false] 32)).drew.heap.size = w0.heap.size + 1 := by have h : (w0.alloc (.cells #[.slice none 0 0, .int .i64 0, .string ⟨#[]⟩, .slice none 0 0, .slice none 0 0, .bool false] 32)).heap.size = w0.heap.size + 1 := (by simp); exact h
    have HS3 := Lib.hid s3
    clear s3
    go_region_held3 (fun w' => w'.cell? ⟨w.heap.size, 1, none⟩ = some (.int .i64 k) ∧ w'.cell? ⟨w.heap.size, 2, none⟩ = some (.string n) ∧ w'.cell? ⟨w.heap.size, 3, none⟩ = some (.slice A m c) ∧ w'.cell? ⟨w.heap.size, 4, none⟩ = some (.slice A' m' c') ∧ w'.cell? ⟨w.heap.size, 5, none⟩ = some (.bool ay))
      (first | with_reducible exact HE0 | ((refine keep5 zA a1 a2 a3 a4 a5 ?_); (repeat (first | with_reducible exact K0 | with_reducible exact m3 | with_reducible exact bw | with_reducible exact Below.refl _ _ | with_reducible refine Below.drew ?_ | (with_reducible refine Below.setCell ?_ ?_ _; rotate_left; (first | with_reducible exact Nat.le_refl _ | with_reducible exact Nat.le_succ _ | with_reducible exact bw.size | (simp; done))) | (with_reducible refine Below.alloc ?_ ?_ _; rotate_left; (first | with_reducible exact Nat.le_refl _ | with_reducible exact bw.size | (simp; done) | (simp; omega))))); done) | (trace_state; fail))
      (first
      | (go_at_call 88; ((with_reducible refine (HOWN.out w0.drew K0).mono ?_); rintro e w' ⟨cs', rfl, hs', hb'⟩; obtain ⟨z0, z1, z2, z3, z4, z5, z6, z7, rfl⟩ := Ty.form hs'.ats; have bw : Below w0.heap.size w0 w' := K0.trans (hb'.mono (Nat.le_refl _)); have HE0 := keep5 zA a1 a2 a3 a4 a5 bw; have hC1 : w0.heap.size ≤ w0.drew.heap.size := Nat.le_refl _))
      | (go_at_call 88; ((with_reducible refine (HOWN.out _ m3).mono ?_); rintro e w' ⟨cs', rfl, hs', hb'⟩; obtain ⟨z0, z1, z2, z3, z4, z5, z6, z7, rfl⟩ := Ty.form hs'.ats; have bw : Below w0.heap.size w0 w' := m3.trans (hb'.mono m3.size); have HE0 := keep5 zA a1 a2 a3 a4 a5 bw; have bZ := Box.call b3 hb'; have cz := bZ.cell; have fz := bZ.frozen; have lz := bZ.lt)))
    all_goals
      go_wp2_with fail
      go_meet
      first
        | (have hz : Box w' w0.heap.size 32 [.slice none 0 0, .int .i64 0, .string ⟨#[]⟩, .slice none 0 0, .slice none 0 0, .bool false] := (by with_reducible exact bZ)
           exact ⟨w0.heap.size, z0, z1, z2, z3, z4, z5, z6, z7, rfl, fn_cutB hz hs' (by have := HS3.out; omega) bw (Nat.le_refl _)⟩)
        | exact ⟨w'.heap.size, z0, z1, z2, z3, z4, z5, z6, z7, rfl, fn_cutC hs' hC1 bw bw.size⟩
  case rest =>
    obtain ⟨g, z0, z1, z2, z3, z4, z5, z6, z7, rfl, hg, bG, ⟨bl, sL, nd, hbl⟩, B1⟩ := hcut
    obtain ⟨W1, hW1⟩ : ∃ W1, W1 = wc := ⟨_, rfl⟩
    rw [← hW1] at bG sL hbl B1 ⊢
    clear hW1 a1 a2 a3 a4 a5 zA HRS HOWN
    have hs1 := B1.size
    have hgl := bG.lt
    have zA := bA.lt
    have zR := bR.lt
    have HS1 := Lib.hid (And.intro sL (And.intro nd hbl))
    have HB1 := Lib.hid (And.intro B0 (And.intro bA bR))
    have HG := Lib.hid bG
    have HB1' := Lib.hid B1
    have kA1 := (bA.call B1).cell
    have kG1 := bG.cell
    clear sL nd hbl bA bR B0 bG B1
    go_wp2
    go_loopw [15] (fun i wr => ∃ (q : Nat) (vK : Value), q ≤ ps.length ∧ i = .int .i64 q ∧ Box wr g 32 [vK, .int .i64 z0, .string z1, .slice z2 z3 z4, .slice z5 z6 z7, .bool ay] ∧ OwnP wr W1.heap.size 113 5 vK q ((ps.take q).flatMap Pa.ds) ∧ (∀ b, b < W1.heap.size → b ≠ g → wr.heap[b]? = W1.heap[b]?) ∧ Below w0.heap.size w0 wr) (fun i _ => ps.length - (intOf i).toNat)
    case atStart => exact ⟨0, _, Nat.zero_le _, rfl, HG.out, OwnP.nil (Nat.le_refl _), fun _ _ _ => rfl, HB1'.out⟩
    clear kA1 kG1
    case round =>
      obtain ⟨q, vK, hq, rfl, bG, hO, hkp, hb⟩ := hrel
      obtain ⟨AK, cK, rfl⟩ := hO.form
      have lG := bG.lt
      have bA : Box wr w.heap.size 32 [.slice B ps.length d, .int .i64 k, .string n, .slice A m c, .slice A' m' c', .bool ay] := (hb.block _ zA).trans HB1.out.2.1
      by_cases hlt : q < ps.length
      · obtain ⟨x, hx⟩ : ∃ x, ps[q]? = some x := ⟨ps[q], List.getElem?_eq_getElem hlt⟩
        have hk0 : (0 : Int) ≤ (q : Int) := by omega
        have hk1 : (q : Int) < (ps.length : Int) := by omega
        obtain ⟨b, off, u0, u1, u2, u3, u4, e, -, zb, hat, g0, g1, g2, g3, g4⟩ := rows_at5 Pa.len HV.out hx
        subst e
        obtain ⟨f0, f1, f2, f3, f4, f5, f6, f7, exx, hnm, hat'⟩ := Pa.open_ hat
        simp only [List.cons.injEq, and_true] at exx
        obtain ⟨rfl, rfl, rfl, rfl, rfl⟩ := exx
        have hxm := List.mem_of_getElem? hx
        obtain ⟨nm, hnmE⟩ : ∃ nm, x.name = nm := ⟨_, rfl⟩
        rw [hnmE] at g0 hnm hat
        have HNM := Lib.hid (And.intro hnmE hnm)
        have HN := Lib.hid (take_next (f := Pa.ds) hx)
        replace hat' := hat'.below hb
        have hWW : Below wr.heap.size wr (wr.alloc (.cells #[.string nm, .int .i64 f0, .string f1, .slice f2 f3 f4, .slice f5 f6 f7] 113)).drew := ((Below.refl _ wr).alloc (Nat.le_refl _) _).drew
        have bE : Box (wr.alloc (.cells #[.string nm, .int .i64 f0, .string f1, .slice f2 f3 f4, .slice f5 f6 f7] 113)).drew wr.heap.size 113 [.string nm, .int .i64 f0, .string f1, .slice f2 f3 f4, .slice f5 f6 f7] := Box.new wr _ [.string nm, .int .i64 f0, .string f1, .slice f2 f3 f4, .slice f5 f6 f7]
        have HE0 := box5 bE
        have hbs := hO.base_le
        have HO := Lib.hid hO
        have HBG := Lib.hid bG
        have HWW := Lib.hid hWW
        have bGd : Box (wr.alloc (.cells #[.string nm, .int .i64 f0, .string f1, .slice f2 f3 f4, .slice f5 f6 f7] 113)).drew g 32 [.slice AK q cK, .int .i64 z0, .string z1, .slice z2 z3 z4, .slice z5 z6 z7, .bool ay] := bG.call hWW
        have HC := Lib.hid (copyType_i x.ty _ (wr.alloc (.cells #[.string nm, .int .i64 f0, .string f1, .slice f2 f3 f4, .slice f5 f6 f7] 113)).drew (hat'.below hWW) (HT.out x hxm))
        have HKP := Lib.hid (And.intro hkp hb)
        have hne : wr.heap.size ≠ g := by omega
        have kA := bA.cell
        have kG := bG.cell
        have kGd := bGd.cell
        have d0 := (hb.cell (p := ⟨b, off + q * 5, none⟩) zb).trans g0
        have d1 := (hb.cell (p := ⟨b, off + q * 5 + 1, none⟩) zb).trans g1
        have d2 := (hb.cell (p := ⟨b, off + q * 5 + 2, none⟩) zb).trans g2
        have d3 := (hb.cell (p := ⟨b, off + q * 5 + 3, none⟩) zb).trans g3
        have d4 := (hb.cell (p := ⟨b, off + q * 5 + 4, none⟩) zb).trans g4
        clear hx hxm hat hat' hO bG hkp hb bA hnmE hnm hWW hbs g0 g1 g2 g3 g4
        go_upto_region 5 with fail
        clear d0 d1 d2 d3 d4
        refine wp_region_held_drew (S := (fun W => W.cell? ⟨wr.heap.size, 0, none⟩ = some (.string nm) ∧ W.cell? ⟨wr.heap.size, 1, none⟩ = some (.int .i64 f0) ∧ W.cell? ⟨wr.heap.size, 2, none⟩ = some (.string f1) ∧ W.cell? ⟨wr.heap.size, 3, none⟩ = some (.slice f2 f3 f4) ∧ W.cell? ⟨wr.heap.size, 4, none⟩ = some (.slice f5 f6 f7))) (by kernel_rfl) ?_ (fun hHeld => ?_)
        · (try dsimp only); (first | assumption | with_reducible exact HE0 | with_reducible exact HE3 | with_reducible exact box5 (bE3.alloc _) | with_reducible exact HE9 | with_reducible exact box5 (bE9.set_ne hne _))
        refine wpAnyH_take (i := 0) (v := ?_) (arr_get rfl) (by kernel_rfl) (by kernel_rfl) (by kernel_rfl) (fun _ _ _ h => h) (Or.inl ⟨by rfl, ?_⟩) (by assumption) ?_
        rotate_left 1
        · (intro W hSw; (try dsimp only at hSw); go_simp; try with_reducible rfl)
        (try simp only [Act.put, List.setIfInBounds_toArray, List.set_cons_zero, List.set_cons_succ])
        refine wpAnyH_take (i := 2) (v := ?_) (arr_get rfl) (by kernel_rfl) (by kernel_rfl) (by kernel_rfl) (fun _ _ _ h => h) (Or.inl ⟨by rfl, ?_⟩) (by assumption) ?_
        rotate_left 1
        · (intro W hSw; (try dsimp only at hSw); go_simp; try with_reducible rfl)
        (try simp only [Act.put, List.setIfInBounds_toArray, List.set_cons_zero, List.set_cons_succ])
        refine wpAnyH_take (i := 3) (v := ?_) (arr_get rfl) (by kernel_rfl) (by kernel_rfl) (by kernel_rfl) (fun _ _ _ h => h) (Or.inl ⟨by rfl, ?_⟩) (by assumption) ?_
        rotate_left 1
        · (intro W hSw; (try dsimp only at hSw); go_simp; try with_reducible rfl)
        (try simp only [Act.put, List.setIfInBounds_toArray, List.set_cons_zero, List.set_cons_succ])
        refine wpAnyH_take (i := 4) (v := ?_) (arr_get rfl) (by kernel_rfl) (by kernel_rfl) (by kernel_rfl) (fun _ _ _ h => h) (Or.inl ⟨by rfl, ?_⟩) (by assumption) ?_
        rotate_left 1
        · (intro W hSw; (try dsimp only at hSw); go_simp; try with_reducible rfl)
        (try simp only [Act.put, List.setIfInBounds_toArray, List.set_cons_zero, List.set_cons_succ])
        refine wpAnyH_take (i := 5) (v := ?_) (arr_get rfl) (by kernel_rfl) (by kernel_rfl) (by kernel_rfl) (fun _ _ _ h => h) (Or.inl ⟨by rfl, ?_⟩) (by assumption) ?_
        rotate_left 1
        · (intro W hSw; (try dsimp only at hSw); go_simp; try with_reducible rfl)
        (try simp only [Act.put, List.setIfInBounds_toArray, List.set_cons_zero, List.set_cons_succ])
        refine wpAnyH_ready (rs := [1, 6]) (by kernel_rfl) (by simp) ?_
        refine AllReadyH.cons (arr_get rfl) (fun K hK => ?_) ?_
        · go_simp
          (first | refine hK.out _ _ ?_ (fun hHeld => ?_) | (go_wp2_with fail; refine hK.out _ _ ?_ (fun hHeld => ?_)))
          · (try dsimp only); (first | assumption | with_reducible exact HE0 | with_reducible exact HE3 | with_reducible exact box5 (bE3.alloc _) | with_reducible exact HE9 | with_reducible exact box5 (bE9.set_ne hne _))
          clear hK K
          (try simp only [Act.put, List.setIfInBounds_toArray, List.set_cons_zero, List.set_cons_succ])
          refine wpAnyH_ready (rs := [6]) (by kernel_rfl) (by simp) ?_
          refine AllReadyH.cons (arr_get rfl) (fun K hK => ?_) ?_
          · (go_simp; go_at_call 88; ((with_reducible refine HC.out.mono ?_); rintro e w3 ⟨cs3, rfl, hs3, hb3⟩; obtain ⟨y0, y1, y2, y3, y4, y5, y6, y7, rfl⟩ := Ty.form hs3.ats; have bG3 := Box.call (w := (wr.alloc (.cells #[.string nm, .int .i64 f0, .string f1, .slice f2 f3 f4, .slice f5 f6 f7] 113)).drew) bGd hb3; have c9 := bG3.cell; have l9 := bG3.lt; have bE3 := Box.call (w := (wr.alloc (.cells #[.string nm, .int .i64 f0, .string f1, .slice f2 f3 f4, .slice f5 f6 f7] 113)).drew) bE hb3; have HE3 := box5 bE3; have hb3w : Below wr.heap.size wr w3 := HWW.out.trans (hb3.mono HWW.out.size)))
            (first | refine hK.out _ _ ?_ (fun hHeld => ?_) | (go_wp2_with fail; refine hK.out _ _ ?_ (fun hHeld => ?_)))
            · (try dsimp only); (first | assumption | with_reducible exact HE0 | with_reducible exact HE3 | with_reducible exact box5 (bE3.alloc _) | with_reducible exact HE9 | with_reducible exact box5 (bE9.set_ne hne _))
            clear hK K
            (try simp only [Act.put, List.setIfInBounds_toArray, List.set_cons_zero, List.set_cons_succ])
            refine wpAnyH_take (i := 7) (v := ?_) (arr_get rfl) (by kernel_rfl) (by kernel_rfl) (by kernel_rfl) (fun _ _ _ h => h) (Or.inl ⟨by rfl, ?_⟩) (by assumption) ?_
            rotate_left 1
            · (intro W hSw; (try dsimp only at hSw); go_simp; try with_reducible rfl)
            (try simp only [Act.put, List.setIfInBounds_toArray, List.set_cons_zero, List.set_cons_succ])
            refine wpAnyH_ready (rs := [8]) (by kernel_rfl) (by simp) ?_
            refine AllReadyH.cons (arr_get rfl) (fun K hK => ?_) ?_
            · go_simp
              (first | refine hK.out _ _ ?_ (fun hHeld => ?_) | (go_wp2_with fail; refine hK.out _ _ ?_ (fun hHeld => ?_)))
              · (try dsimp only); (first | assumption | with_reducible exact HE0 | with_reducible exact HE3 | with_reducible exact box5 (bE3.alloc _) | with_reducible exact HE9 | with_reducible exact box5 (bE9.set_ne hne _))
              clear hK K
              (try simp only [Act.put, List.setIfInBounds_toArray, List.set_cons_zero, List.set_cons_succ])
              refine wpAnyH_ready (rs := [9]) (by kernel_rfl) (by simp) ?_
              refine AllReadyH.cons (arr_get rfl) (fun K hK => ?_) ?_
              · ((with_reducible refine at_world (w3.alloc (.cells #[.string nm, .int .i64 y0, .string y1, .slice y2 y3 y4, .slice y5 y6 y7] 113)) ?_); refine step_ownP2 (vs := [.string nm, .int .i64 y0, .string y1, .slice y2 y3 y4, .slice y5 y6 y7]) (es := x.ds) HO.out hb3w (by have := (pa_seps (x := x) (by rw [HNM.out.1]; exact HNM.out.2) hs3).weaken HWW.out.size (Nat.le_refl _); rw [HNM.out.1] at this; exact this) (.tmp 20) (.tmp 27) Tryz.underlying27 HJ.out.1 HJ.out.2.1 HJ.out.2.2.1 HJ.out.2.2.2 rfl (by decide) rfl (by simp [Value.oneCell']) (by unfold maxLen; omega) (by omega) ?_; intro v' w' ho' hb' hk'; obtain ⟨A2, c2, rfl⟩ := ho'.form; have bG2 : Box w' g 32 [.slice AK q cK, .int .i64 z0, .string z1, .slice z2 z3 z4, .slice z5 z6 z7, .bool ay] := (hb'.block g hgl).trans HBG.out; have cg := bG2.cell; have fg := bG2.frozen; have lg := bG2.lt; have bE9 : Box w' wr.heap.size 113 [.string nm, .int .i64 f0, .string f1, .slice f2 f3 f4, .slice f5 f6 f7] := (hk' _ (Nat.le_refl _) bE3.lt).trans bE3; have HE9 := box5 bE9)
                (first | refine hK.out _ _ ?_ (fun hHeld => ?_) | (go_wp2_with fail; refine hK.out _ _ ?_ (fun hHeld => ?_)))
                · (try dsimp only); (first | assumption | with_reducible exact HE0 | with_reducible exact HE3 | with_reducible exact box5 (bE3.alloc _) | with_reducible exact HE9 | with_reducible exact box5 (bE9.set_ne hne _))
                clear hK K
                (try simp only [Act.put, List.setIfInBounds_toArray, List.set_cons_zero, List.set_cons_succ])
                refine wpAnyH_take (i := 10) (v := ?_) (arr_get rfl) (by kernel_rfl) (by kernel_rfl) (by kernel_rfl) (fun _ _ _ h => h) (Or.inl ⟨by rfl, ?_⟩) (by assumption) ?_
                rotate_left 1
                · (intro W hSw; (try dsimp only at hSw); go_simp; try with_reducible rfl)
                (try simp only [Act.put, List.setIfInBounds_toArray, List.set_cons_zero, List.set_cons_succ])
                refine wpAnyH_ready (rs := [11]) (by kernel_rfl) (by simp) ?_
                refine AllReadyH.cons (arr_get rfl) (fun K hK => ?_) ?_
                · go_simp
                  (first | refine hK.out _ _ ?_ (fun hHeld => ?_) | (go_wp2_with fail; refine hK.out _ _ ?_ (fun hHeld => ?_)))
                  · (try dsimp only); (first | assumption | with_reducible exact HE0 | with_reducible exact HE3 | with_reducible exact box5 (bE3.alloc _) | with_reducible exact HE9 | with_reducible exact box5 (bE9.set_ne hne _))
                  clear hK K
                  (try simp only [Act.put, List.setIfInBounds_toArray, List.set_cons_zero, List.set_cons_succ])
                  refine wpAnyH_done (by kernel_rfl) ?_ _
                  have HON := Lib.hid (ho'.set (p := ⟨g, 0, none⟩) hgl (.slice A2 (q + 1) c2))
                  have HBN := Lib.hid (show Box (w'.setCell ⟨g, 0, none⟩ (.slice A2 (q + 1) c2)) g 32 [.slice A2 (q + 1) c2, .int .i64 z0, .string z1, .slice z2 z3 z4, .slice z5 z6 z7, .bool ay] from bG2.set 0 _)
                  have HKN := Lib.hid (show ∀ b, b < W1.heap.size → b ≠ g → (w'.setCell ⟨g, 0, none⟩ (.slice A2 (q + 1) c2)).heap[b]? = W1.heap[b]? from fun b h1 h2 => ((Below.heap_setCell _ _ _ _ h2).trans (hb'.block b h1)).trans (HKP.out.1 b h1 h2))
                  have HWN := Lib.hid (show Below w0.heap.size w0 (w'.setCell ⟨g, 0, none⟩ (.slice A2 (q + 1) c2)) from (HKP.out.2.trans (hb'.mono hs1)).setCell hg _)
                  clear kA kG cg fg lg bG2 bGd ho' hb' hk' bE3 bE9 HE0 HE3 HE9 bE c9 l9 bG3 hs3 hb3 hb3w
                  go_wp2
                  go_roundw
                  case rel => exact ⟨q + 1, _, by omega, by go_num, HBN.out, by rw [HN.out]; exact HON.out, HKN.out, HWN.out⟩
                  case measure => simp [intOf]; omega
                exact AllReadyH.nil
              exact AllReadyH.nil
            exact AllReadyH.nil
          exact AllReadyH.nil
        refine AllReadyH.cons (arr_get rfl) (fun K hK => ?_) ?_
        · (go_simp; go_at_call 88; ((with_reducible refine HC.out.mono ?_); rintro e w3 ⟨cs3, rfl, hs3, hb3⟩; obtain ⟨y0, y1, y2, y3, y4, y5, y6, y7, rfl⟩ := Ty.form hs3.ats; have bG3 := Box.call (w := (wr.alloc (.cells #[.string nm, .int .i64 f0, .string f1, .slice f2 f3 f4, .slice f5 f6 f7] 113)).drew) bGd hb3; have c9 := bG3.cell; have l9 := bG3.lt; have bE3 := Box.call (w := (wr.alloc (.cells #[.string nm, .int .i64 f0, .string f1, .slice f2 f3 f4, .slice f5 f6 f7] 113)).drew) bE hb3; have HE3 := box5 bE3; have hb3w : Below wr.heap.size wr w3 := HWW.out.trans (hb3.mono HWW.out.size)))
          (first | refine hK.out _ _ ?_ (fun hHeld => ?_) | (go_wp2_with fail; refine hK.out _ _ ?_ (fun hHeld => ?_)))
          · (try dsimp only); (first | assumption | with_reducible exact HE0 | with_reducible exact HE3 | with_reducible exact box5 (bE3.alloc _) | with_reducible exact HE9 | with_reducible exact box5 (bE9.set_ne hne _))
          clear hK K
          (try simp only [Act.put, List.setIfInBounds_toArray, List.set_cons_zero, List.set_cons_succ])
          refine wpAnyH_take (i := 7) (v := ?_) (arr_get rfl) (by kernel_rfl) (by kernel_rfl) (by kernel_rfl) (fun _ _ _ h => h) (Or.inl ⟨by rfl, ?_⟩) (by assumption) ?_
          rotate_left 1
          · (intro W hSw; (try dsimp only at hSw); go_simp; try with_reducible rfl)
          (try simp only [Act.put, List.setIfInBounds_toArray, List.set_cons_zero, List.set_cons_succ])
          refine wpAnyH_ready (rs := [1, 8]) (by kernel_rfl) (by simp) ?_
          refine AllReadyH.cons (arr_get rfl) (fun K hK => ?_) ?_
          · go_simp
            (first | refine hK.out _ _ ?_ (fun hHeld => ?_) | (go_wp2_with fail; refine hK.out _ _ ?_ (fun hHeld => ?_)))
            · (try dsimp only); (first | assumption | with_reducible exact HE0 | with_reducible exact HE3 | with_reducible exact box5 (bE3.alloc _) | with_reducible exact HE9 | with_reducible exact box5 (bE9.set_ne hne _))
            clear hK K
            (try simp only [Act.put, List.setIfInBounds_toArray, List.set_cons_zero, List.set_cons_succ])
            refine wpAnyH_ready (rs := [8]) (by kernel_rfl) (by simp) ?_
            refine AllReadyH.cons (arr_get rfl) (fun K hK => ?_) ?_
            · go_simp
              (first | refine hK.out _ _ ?_ (fun hHeld => ?_) | (go_wp2_with fail; refine hK.out _ _ ?_ (fun hHeld => ?_)))
              · (try dsimp only); (first | assumption | with_reducible exact HE0 | with_reducible exact HE3 | with_reducible exact box5 (bE3.alloc _) | with_reducible exact HE9 | with_reducible exact box5 (bE9.set_ne hne _))
              clear hK K
              (try simp only [Act.put, List.setIfInBounds_toArray, List.set_cons_zero, List.set_cons_succ])
              refine wpAnyH_ready (rs := [9]) (by kernel_rfl) (by simp) ?_
              refine AllReadyH.cons (arr_get rfl) (fun K hK => ?_) ?_
              · ((with_reducible refine at_world (w3.alloc (.cells #[.string nm, .int .i64 y0, .string y1, .slice y2 y3 y4, .slice y5 y6 y7] 113)) ?_); refine step_ownP2 (vs := [.string nm, .int .i64 y0, .string y1, .slice y2 y3 y4, .slice y5 y6 y7]) (es := x.ds) HO.out hb3w (by have := (pa_seps (x := x) (by rw [HNM.out.1]; exact HNM.out.2) hs3).weaken HWW.out.size (Nat.le_refl _); rw [HNM.out.1] at this; exact this) (.tmp 20) (.tmp 27) Tryz.underlying27 HJ.out.1 HJ.out.2.1 HJ.out.2.2.1 HJ.out.2.2.2 rfl (by decide) rfl (by simp [Value.oneCell']) (by unfold maxLen; omega) (by omega) ?_; intro v' w' ho' hb' hk'; obtain ⟨A2, c2, rfl⟩ := ho'.form; have bG2 : Box w' g 32 [.slice AK q cK, .int .i64 z0, .string z1, .slice z2 z3 z4, .slice z5 z6 z7, .bool ay] := (hb'.block g hgl).trans HBG.out; have cg := bG2.cell; have fg := bG2.frozen; have lg := bG2.lt; have bE9 : Box w' wr.heap.size 113 [.string nm, .int .i64 f0, .string f1, .slice f2 f3 f4, .slice f5 f6 f7] := (hk' _ (Nat.le_refl _) bE3.lt).trans bE3; have HE9 := box5 bE9)
                (first | refine hK.out _ _ ?_ (fun hHeld => ?_) | (go_wp2_with fail; refine hK.out _ _ ?_ (fun hHeld => ?_)))
                · (try dsimp only); (first | assumption | with_reducible exact HE0 | with_reducible exact HE3 | with_reducible exact box5 (bE3.alloc _) | with_reducible exact HE9 | with_reducible exact box5 (bE9.set_ne hne _))
                clear hK K
                (try simp only [Act.put, List.setIfInBounds_toArray, List.set_cons_zero, List.set_cons_succ])
                refine wpAnyH_take (i := 10) (v := ?_) (arr_get rfl) (by kernel_rfl) (by kernel_rfl) (by kernel_rfl) (fun _ _ _ h => h) (Or.inl ⟨by rfl, ?_⟩) (by assumption) ?_
                rotate_left 1
                · (intro W hSw; (try dsimp only at hSw); go_simp; try with_reducible rfl)
                (try simp only [Act.put, List.setIfInBounds_toArray, List.set_cons_zero, List.set_cons_succ])
                refine wpAnyH_ready (rs := [11]) (by kernel_rfl) (by simp) ?_
                refine AllReadyH.cons (arr_get rfl) (fun K hK => ?_) ?_
                · go_simp
                  (first | refine hK.out _ _ ?_ (fun hHeld => ?_) | (go_wp2_with fail; refine hK.out _ _ ?_ (fun hHeld => ?_)))
                  · (try dsimp only); (first | assumption | with_reducible exact HE0 | with_reducible exact HE3 | with_reducible exact box5 (bE3.alloc _) | with_reducible exact HE9 | with_reducible exact box5 (bE9.set_ne hne _))
                  clear hK K
                  (try simp only [Act.put, List.setIfInBounds_toArray, List.set_cons_zero, List.set_cons_succ])
                  refine wpAnyH_done (by kernel_rfl) ?_ _
                  have HON := Lib.hid (ho'.set (p := ⟨g, 0, none⟩) hgl (.slice A2 (q + 1) c2))
                  have HBN := Lib.hid (show Box (w'.setCell ⟨g, 0, none⟩ (.slice A2 (q + 1) c2)) g 32 [.slice A2 (q + 1) c2, .int .i64 z0, .string z1, .slice z2 z3 z4, .slice z5 z6 z7, .bool ay] from bG2.set 0 _)
                  have HKN := Lib.hid (show ∀ b, b < W1.heap.size → b ≠ g → (w'.setCell ⟨g, 0, none⟩ (.slice A2 (q + 1) c2)).heap[b]? = W1.heap[b]? from fun b h1 h2 => ((Below.heap_setCell _ _ _ _ h2).trans (hb'.block b h1)).trans (HKP.out.1 b h1 h2))
                  have HWN := Lib.hid (show Below w0.heap.size w0 (w'.setCell ⟨g, 0, none⟩ (.slice A2 (q + 1) c2)) from (HKP.out.2.trans (hb'.mono hs1)).setCell hg _)
                  clear kA kG cg fg lg bG2 bGd ho' hb' hk' bE3 bE9 HE0 HE3 HE9 bE c9 l9 bG3 hs3 hb3 hb3w
                  go_wp2
                  go_roundw
                  case rel => exact ⟨q + 1, _, by omega, by go_num, HBN.out, by rw [HN.out]; exact HON.out, HKN.out, HWN.out⟩
                  case measure => simp [intOf]; omega
                exact AllReadyH.nil
              exact AllReadyH.nil
            exact AllReadyH.nil
          refine AllReadyH.cons (arr_get rfl) (fun K hK => ?_) ?_
          · go_simp
            (first | refine hK.out _ _ ?_ (fun hHeld => ?_) | (go_wp2_with fail; refine hK.out _ _ ?_ (fun hHeld => ?_)))
            · (try dsimp only); (first | assumption | with_reducible exact HE0 | with_reducible exact HE3 | with_reducible exact box5 (bE3.alloc _) | with_reducible exact HE9 | with_reducible exact box5 (bE9.set_ne hne _))
            clear hK K
            (try simp only [Act.put, List.setIfInBounds_toArray, List.set_cons_zero, List.set_cons_succ])
            refine wpAnyH_ready (rs := [1]) (by kernel_rfl) (by simp) ?_
            refine AllReadyH.cons (arr_get rfl) (fun K hK => ?_) ?_
            · go_simp
              (first | refine hK.out _ _ ?_ (fun hHeld => ?_) | (go_wp2_with fail; refine hK.out _ _ ?_ (fun hHeld => ?_)))
              · (try dsimp only); (first | assumption | with_reducible exact HE0 | with_reducible exact HE3 | with_reducible exact box5 (bE3.alloc _) | with_reducible exact HE9 | with_reducible exact box5 (bE9.set_ne hne _))
              clear hK K
              (try simp only [Act.put, List.setIfInBounds_toArray, List.set_cons_zero, List.set_cons_succ])
              refine wpAnyH_ready (rs := [9]) (by kernel_rfl) (by simp) ?_
              refine AllReadyH.cons (arr_get rfl) (fun K hK => ?_) ?_
              · ((with_reducible refine at_world (w3.alloc (.cells #[.string nm, .int .i64 y0, .string y1, .slice y2 y3 y4, .slice y5 y6 y7] 113)) ?_); refine step_ownP2 (vs := [.string nm, .int .i64 y0, .string y1, .slice y2 y3 y4, .slice y5 y6 y7]) (es := x.ds) HO.out hb3w (by have := (pa_seps (x := x) (by rw [HNM.out.1]; exact HNM.out.2) hs3).weaken HWW.out.size (Nat.le_refl _); rw [HNM.out.1] at this; exact this) (.tmp 20) (.tmp 27) Tryz.underlying27 HJ.out.1 HJ.out.2.1 HJ.out.2.2.1 HJ.out.2.2.2 rfl (by decide) rfl (by simp [Value.oneCell']) (by unfold maxLen; omega) (by omega) ?_; intro v' w' ho' hb' hk'; obtain ⟨A2, c2, rfl⟩ := ho'.form; have bG2 : Box w' g 32 [.slice AK q cK, .int .i64 z0, .string z1, .slice z2 z3 z4, .slice z5 z6 z7, .bool ay] := (hb'.block g hgl).trans HBG.out; have cg := bG2.cell; have fg := bG2.frozen; have lg := bG2.lt; have bE9 : Box w' wr.heap.size 113 [.string nm, .int .i64 f0, .string f1, .slice f2 f3 f4, .slice f5 f6 f7] := (hk' _ (Nat.le_refl _) bE3.lt).trans bE3; have HE9 := box5 bE9)
                (first | refine hK.out _ _ ?_ (fun hHeld => ?_) | (go_wp2_with fail; refine hK.out _ _ ?_ (fun hHeld => ?_)))
                · (try dsimp only); (first | assumption | with_reducible exact HE0 | with_reducible exact HE3 | with_reducible exact box5 (bE3.alloc _) | with_reducible exact HE9 | with_reducible exact box5 (bE9.set_ne hne _))
                clear hK K
                (try simp only [Act.put, List.setIfInBounds_toArray, List.set_cons_zero, List.set_cons_succ])
                refine wpAnyH_take (i := 10) (v := ?_) (arr_get rfl) (by kernel_rfl) (by kernel_rfl) (by kernel_rfl) (fun _ _ _ h => h) (Or.inl ⟨by rfl, ?_⟩) (by assumption) ?_
                rotate_left 1
                · (intro W hSw; (try dsimp only at hSw); go_simp; try with_reducible rfl)
                (try simp only [Act.put, List.setIfInBounds_toArray, List.set_cons_zero, List.set_cons_succ])
                refine wpAnyH_ready (rs := [11]) (by kernel_rfl) (by simp) ?_
                refine AllReadyH.cons (arr_get rfl) (fun K hK => ?_) ?_
                · go_simp
                  (first | refine hK.out _ _ ?_ (fun hHeld => ?_) | (go_wp2_with fail; refine hK.out _ _ ?_ (fun hHeld => ?_)))
                  · (try dsimp only); (first | assumption | with_reducible exact HE0 | with_reducible exact HE3 | with_reducible exact box5 (bE3.alloc _) | with_reducible exact HE9 | with_reducible exact box5 (bE9.set_ne hne _))
                  clear hK K
                  (try simp only [Act.put, List.setIfInBounds_toArray, List.set_cons_zero, List.set_cons_succ])
                  refine wpAnyH_done (by kernel_rfl) ?_ _
                  have HON := Lib.hid (ho'.set (p := ⟨g, 0, none⟩) hgl (.slice A2 (q + 1) c2))
                  have HBN := Lib.hid (show Box (w'.setCell ⟨g, 0, none⟩ (.slice A2 (q + 1) c2)) g 32 [.slice A2 (q + 1) c2, .int .i64 z0, .string z1, .slice z2 z3 z4, .slice z5 z6 z7, .bool ay] from bG2.set 0 _)
                  have HKN := Lib.hid (show ∀ b, b < W1.heap.size → b ≠ g → (w'.setCell ⟨g, 0, none⟩ (.slice A2 (q + 1) c2)).heap[b]? = W1.heap[b]? from fun b h1 h2 => ((Below.heap_setCell _ _ _ _ h2).trans (hb'.block b h1)).trans (HKP.out.1 b h1 h2))
                  have HWN := Lib.hid (show Below w0.heap.size w0 (w'.setCell ⟨g, 0, none⟩ (.slice A2 (q + 1) c2)) from (HKP.out.2.trans (hb'.mono hs1)).setCell hg _)
                  clear kA kG cg fg lg bG2 bGd ho' hb' hk' bE3 bE9 HE0 HE3 HE9 bE c9 l9 bG3 hs3 hb3 hb3w
                  go_wp2
                  go_roundw
                  case rel => exact ⟨q + 1, _, by omega, by go_num, HBN.out, by rw [HN.out]; exact HON.out, HKN.out, HWN.out⟩
                  case measure => simp [intOf]; omega
                exact AllReadyH.nil
              exact AllReadyH.nil
            exact AllReadyH.nil
          exact AllReadyH.nil
        exact AllReadyH.nil
      · obtain rfl : q = ps.length := by omega
        have hD := hO.done (fun h0 => by rw [List.take_length, List.eq_nil_of_length_eq_zero h0]; rfl)
        rw [List.take_length] at hD
        have HD := Lib.hid hD
        have HKP := Lib.hid (And.intro hkp hb)
        have bR : Box wr (w.heap.size + 1) 32 [.slice none 0 0, .int .i64 0, .string ⟨#[]⟩, .slice none 0 0, .slice none 0 0, .bool false] := (hb.block _ zR).trans HB1.out.2.2
        have kA := bA.cell
        have kG := bG.cell
        have kR := bR.cell
        have fR := bR.frozen
        have lR := bR.lt
        clear hD hO hkp hb
        go_wp2
        refine bodyPost_ret (v := .agg #[.slice AK ps.length cK, .int .i64 z0, .string z1, .slice z2 z3 z4, .slice z5 z6 z7, .bool ay]) (by simp [results, Tryz.results40, go_sem, kR]) rfl ⟨[.slice AK ps.length cK, .int .i64 z0, .string z1, .slice z2 z3 z4, .slice z5 z6 z7, .bool ay], rfl, ?_, ?_⟩
        · have h3 : ∀ b ∈ bl, b ≠ w.heap.size + 1 := fun b hb => by have := HS1.out.2.2 b hb; have := HS0.out; omega
          have hsz := HKP.out.2.size
          refine fn_end (w := wr) (B := W1.heap.size) (cs := [.int .i64 z0, .string z1, .slice z2 z3 z4, .slice z5 z6 z7]) (D.Seps.keep _ _ _ (fun b hb => HKP.out.1 b (HS1.out.2.2 b hb).2.1 (HS1.out.2.2 b hb).2.2) HS1.out.1) HS1.out.2.1 (fun b hb => ⟨by have := HS1.out.2.2 b hb; have := HS0.out; omega, (HS1.out.2.2 b hb).2.1⟩) (by have := HS0.out; omega) HD.out (by simp [World.setCell]) (fun b hb => ?_)
          have hne : b ≠ w.heap.size + 1 := by
            rcases hb with hb | hb
            · exact h3 b hb
            · have := HS0.out; omega
          rw [Below.heap_setCell _ _ _ _ hne, Below.heap_setCell _ _ _ _ hne, Below.heap_setCell _ _ _ _ hne, Below.heap_setCell _ _ _ _ hne, Below.heap_setCell _ _ _ _ hne, Below.heap_setCell _ _ _ _ hne]
        · have := HB1.out.1.trans (HKP.out.2.mono HB1.out.1.size)
          with_reducible refine Below.setCell (Below.setCell (Below.setCell (Below.setCell (Below.setCell (Below.setCell ?_ ?_ _) ?_ _) ?_ _) ?_ _) ?_ _) ?_ _
          · exact this
          all_goals exact Nat.le_succ _
end Go.Proofs.YtpfkhojhkjaafaaGreatDoor
