/- A row that the call owns, of elements whose slices lie each in a block of its own; append of one such element to it. -/
import Derived.Test.YtcpadaelgdmipaaGreatDoorSepIn
import Derived.Maps.AppendAt
namespace Go.Proofs.YtcpadaelgdmipaaGreatDoor
open Go.RowKit

section
variable {w w' : World} {base : Nat} {e : TypeId} {size : Nat} {v : Value} {n : Nat} {xs : List Value} {ds : List D}
theorem own_keep (h : w.ownsRow base e size v n xs) (hk : ∀ b, base ≤ b → b < w.heap.size → w'.heap[b]? = w.heap[b]?) : w'.ownsRow base e size v n xs := by
  refine ⟨h.1, ?_⟩
  rcases h.2 with h | ⟨g, cap, cur, rfl, hb, hg, r⟩
  · exact .inl h
  · exact .inr ⟨g, cap, cur, rfl, hb, (hk g hb (Array.getElem?_eq_some_iff.1 hg).1).trans hg, r⟩
def OwnP (w : World) (base : Nat) (e : TypeId) (size : Nat) (v : Value) (n : Nat) (ds : List D) : Prop :=
  base ≤ w.heap.size ∧ ∃ xs l, w.ownsRow base e size v n xs ∧ D.Seps w ds l xs ∧ l.Nodup ∧ ∀ b ∈ l, base ≤ b ∧ b < w.heap.size ∧ v.ownBlock ≠ some b
theorem OwnP.nil (h : base ≤ w.heap.size) : OwnP w base e size (.slice none 0 0) 0 [] := ⟨h, [], [], World.ownsRow_nil _ _ _ _, D.Seps.nil, List.nodup_nil, fun b hb => by cases hb⟩
theorem OwnP.keep (h : OwnP w base e size v n ds) (hs : w.heap.size ≤ w'.heap.size) (hk : ∀ b, base ≤ b → b < w.heap.size → w'.heap[b]? = w.heap[b]?) : OwnP w' base e size v n ds := by
  obtain ⟨h0, xs, l, h1, h2, h3, h4⟩ := h
  exact ⟨Nat.le_trans h0 hs, xs, l, own_keep h1 hk, D.Seps.keep ds l xs (fun b hb => hk b (h4 b hb).1 (h4 b hb).2.1) h2, h3, fun b hb => ⟨(h4 b hb).1, Nat.lt_of_lt_of_le (h4 b hb).2.1 hs, (h4 b hb).2.2⟩⟩
theorem OwnP.below (h : OwnP w base e size v n ds) (hb : Below w.heap.size w w') : OwnP w' base e size v n ds := h.keep hb.size (fun b _ hlt => hb.block b hlt)
theorem OwnP.set (h : OwnP w base e size v n ds) {p : Addr} (hp : p.block < base) (u : Value) : OwnP (w.setCell p u) base e size v n ds :=
  h.keep (by simp [World.setCell]) (fun b hb _ => Below.heap_setCell _ _ _ _ (by omega))
theorem OwnP.drew (h : OwnP w base e size v n ds) : OwnP w.drew base e size v n ds := OwnP.keep (w := w) (w' := w.drew) h (Nat.le_refl _) (fun _ _ _ => rfl)
theorem OwnP.base_le (h : OwnP w base e size v n ds) : base ≤ w.heap.size := h.1
theorem OwnP.form (h : OwnP w base e size v n ds) : ∃ A c, v = .slice A n c := by
  obtain ⟨_, xs, l, h1, -⟩ := h
  rcases h1.2 with ⟨rfl, rfl⟩ | ⟨g, cap, cur, rfl, -⟩
  · exact ⟨_, _, rfl⟩
  · exact ⟨_, _, rfl⟩
theorem OwnP.done (h : OwnP w base e size v n ds) (hds : n = 0 → ds = []) : SepIn w base w.heap.size (.sl n size ds) v := by
  obtain ⟨h0, xs, l, h1, h2, h3, h4⟩ := h
  rcases Nat.eq_zero_or_pos n with hn | hn
  · subst hn
    have := hds rfl
    subst this
    rcases h1.2 with ⟨rfl, -⟩ | ⟨g, cap, cur, rfl, -, -, -, hm, -⟩
    · exact ⟨h0, [], D.Sep.empty (Nat.zero_le _), List.nodup_nil, fun b hb => by cases hb⟩
    · exact ⟨h0, [], D.Sep.empty hm, List.nodup_nil, fun b hb => by cases hb⟩
  · obtain ⟨g, hg, hs⟩ := D.Sep.of_own h1 h2 hn
    have hlt := h1.lt g hg
    refine ⟨h0, g :: l, hs, List.nodup_cons.2 ⟨fun hm => (h4 g hm).2.2 hg, h3⟩, fun b hb => ?_⟩
    rcases List.mem_cons.1 hb with rfl | hb
    · exact hlt
    · exact ⟨(h4 b hb).1, (h4 b hb).2.1⟩
end
theorem OwnP.next {w0 w1 wa w2 : World} {base : Nat} {e : TypeId} {size n m : Nat} {v v' : Value} {xs vs : List Value} {ds es : List D} {l : List Nat} (h0 : base ≤ w0.heap.size) (h1 : w0.ownsRow base e size v n xs) (h2 : D.Seps w0 ds l xs) (h3 : l.Nodup)
    (h4 : ∀ b ∈ l, base ≤ b ∧ b < w0.heap.size ∧ v.ownBlock ≠ some b) (hb : Below w0.heap.size w0 w1) (hr : SepsIn w1 w0.heap.size w1.heap.size es vs) (ha : Below w1.heap.size w1 wa)
    (ho : w2.ownsRow base e size v' m (xs ++ vs)) (hg : wa.grownBy w2 v.ownBlock) (hat : v'.ownBlock = v.ownBlock ∨ v'.ownBlock = some wa.heap.size) : OwnP w2 base e size v' m (ds ++ es) := by
  obtain ⟨-, l', k1, k2, k3⟩ := hr
  have s1 := hb.size
  have s2 := ha.size
  have s3 := hg.size
  have q1 : ∀ b ∈ l, w2.heap[b]? = w0.heap[b]? := fun b hm => by
    obtain ⟨_, g2, g3⟩ := h4 b hm
    rw [hg.block b (by omega) (fun e => g3 e.symm), ha.block b (by omega), hb.block b g2]
  have q2 : ∀ b ∈ l', w2.heap[b]? = w1.heap[b]? := fun b hm => by
    obtain ⟨g1, g2⟩ := k3 b hm
    rw [hg.block b (by omega) (fun e => by have := (h1.lt b e.symm).2; omega), ha.block b g2]
  refine ⟨by omega, xs ++ vs, l ++ l', ho, (D.Seps.keep ds l xs q1 h2).append (D.Seps.keep es l' vs q2 k1), List.nodup_append.2 ⟨h3, k2, fun a ha' b hb' e => ?_⟩, fun b hm => ?_⟩
  · have := (h4 a ha').2.1; have := (k3 b hb').1; omega
  · rcases List.mem_append.1 hm with hm | hm
    · obtain ⟨g1, g2, g3⟩ := h4 b hm
      refine ⟨g1, by omega, fun e => ?_⟩
      rcases hat with h | h
      · exact g3 (h ▸ e)
      · rw [h] at e; injection e with e; omega
    · obtain ⟨g1, g2⟩ := k3 b hm
      refine ⟨by omega, by omega, fun e => ?_⟩
      rcases hat with h | h
      · have := (h1.lt b (h ▸ e)).2; omega
      · rw [h] at e; injection e with e; omega
section
variable {P : Program}
/-- Append of one element of four cells, just laid in a block of its own, to such a row: what comes back. -/
theorem run_ownP {w0 w1 : World} {base : Nat} {e t ty : TypeId} {size bytes n : Nat} {v : Value} {vs : List Value} {ds es : List D} {i : TypeInfo} {z : Value} {fz : Nat × Nat} (ht : P.underlying t = some (.slice e)) (hi : P.info? e = some i) (hz : i.zero = some z)
    (hsize : i.size = size) (hby : i.bytes = bytes) (hzs : z.cells.size = size) (hsz : 0 < size) (hp : OwnP w0 base e size v n ds) (hb : Below w0.heap.size w0 w1) (hr : SepsIn w1 w0.heap.size w1.heap.size es vs)
    (hl : vs.length = size) (h1 : ∀ u ∈ vs, u.oneCell' = true) (h63 : n + 1 ≤ maxLen) (hbytes : (n + 1) * bytes ≤ 140737488355328) :
    ∃ v' w', (Builtin.append_ #[t, t] ty #[v, .slice (some ⟨w1.heap.size, 0, none⟩) 1 1]).run P (w1.alloc (.cells vs.toArray e fz)) = .ok v' w' ∧ OwnP w' base e size v' (n + 1) (ds ++ es) ∧ Below base w0 w' := by
  obtain ⟨h0, xs, l, g1, g2, g3, g4⟩ := hp
  have s1 := hb.size
  have ha : Below w1.heap.size w1 (w1.alloc (.cells vs.toArray e fz)) := (Below.refl _ _).alloc (Nat.le_refl _) _
  have hown : (w1.alloc (.cells vs.toArray e fz)).ownsRow base e size v n xs := own_keep g1 (fun b _ hlt => by rw [ha.block b (by omega), hb.block b hlt])
  obtain ⟨v', w', q1, q2, q3, -, q5⟩ := run_append_own_at (P := P) (w1.alloc (.cells vs.toArray e fz)) base t ty e i z size bytes ht hi hz hsize hby hzs hsz v n xs hown ⟨w1.heap.size, 0, none⟩ 1 1 vs (by rw [hl, Nat.one_mul])
    (fun j u hj => by rw [Addr.add_lit, cell_of_row _ _ _ _ _ _ (heap_alloc_new w1 _)]; simpa using hj) h1 h63 hbytes (by simp; omega)
  exact ⟨v', w', q1, OwnP.next h0 g1 g2 g3 g4 hb hr ha q2 q3 q5, ((hb.mono h0).trans (ha.mono (by omega))).grown q3 (by simp; omega) (fun k hk => (g1.lt k hk).1)⟩
/-- The same as one step of a region that draws its order. -/
theorem step_ownP {w0 w1 : World} {ops : Array Oper} {o : Oper} {a : Act} {K : Act → World → Prop} {Q : Exit → Act → World → Prop} {E : Prop} {base : Nat} {e t : TypeId} {size bytes n : Nat} {v : Value} {vs : List Value} {ds es : List D} {i : TypeInfo} {z : Value} {fz : Nat × Nat}
    (hp : OwnP w0 base e size v n ds) (hb : Below w0.heap.size w0 w1) (hr : SepsIn w1 w0.heap.size w1.heap.size es vs) (s x : Operand) (ht : P.underlying t = some (.slice e)) (hi : P.info? e = some i) (hz : i.zero = some z)
    (hsize : i.size = size) (hby : i.bytes = bytes) (hzs : z.cells.size = size) (hsz : 0 < size)
    (hl : vs.length = size) (h1 : ∀ u ∈ vs, u.oneCell' = true) (h63 : n + 1 ≤ maxLen) (hbytes : (n + 1) * bytes ≤ 140737488355328)
    (h : ∀ v' w', OwnP w' base e size v' (n + 1) (ds ++ es) → Below base w0 w' → K (a.put o.dst v') w')
    (hgd : o.guard = none := by exact rfl) (ho : o.op = .call { callee := .builtin .append, args := #[s, x], argTypes := #[t, t] } := by exact rfl)
    (hs : a.eval s = v := by simp [Act.eval, Act.put]) (hx : a.eval x = .slice (some ⟨w1.heap.size, 0, none⟩) 1 1 := by simp [Act.eval, Act.put]) :
    if Region.wanted o (yielded ops a.tmps) = true then Oper.wp P o a (w1.alloc (.cells vs.toArray e fz)) K Q else E := by
  have hw : Region.wanted o (yielded ops a.tmps) = true := by simp [Region.wanted, hgd]
  rw [if_pos hw]
  obtain ⟨v', w', hr', h2, h3⟩ := run_ownP (P := P) (ty := o.type) (fz := fz) ht hi hz hsize hby hzs hsz hp hb hr hl h1 h63 hbytes
  unfold Oper.wp execOp
  simp only [ho, resolve, invoke, builtin, Sem.run_bind, Sem.run_pure, Result.andThen_ok, List.map_toArray, List.map_cons, List.map_nil, hs, hx, hr']
  exact h v' w' h2 h3
theorem wpList_ownP {w0 w1 : World} {ops : Array Oper} {rest : List Oper} {o : Oper} {a : Act} {Q : Exit → Act → World → Prop} {base : Nat} {e t : TypeId} {size bytes n : Nat} {v : Value} {vs : List Value} {ds es : List D} {i : TypeInfo} {z : Value} {fz : Nat × Nat}
    (hp : OwnP w0 base e size v n ds) (hb : Below w0.heap.size w0 w1) (hr : SepsIn w1 w0.heap.size w1.heap.size es vs) (s x : Operand) (ht : P.underlying t = some (.slice e)) (hi : P.info? e = some i) (hz : i.zero = some z)
    (hsize : i.size = size) (hby : i.bytes = bytes) (hzs : z.cells.size = size) (hsz : 0 < size)
    (hl : vs.length = size) (h1 : ∀ u ∈ vs, u.oneCell' = true) (h63 : n + 1 ≤ maxLen) (hbytes : (n + 1) * bytes ≤ 140737488355328)
    (h : ∀ v' w', OwnP w' base e size v' (n + 1) (ds ++ es) → Below base w0 w' → wpList P ops Q rest (a.put o.dst v') w')
    (hgd : o.guard = none := by exact rfl) (ho : o.op = .call { callee := .builtin .append, args := #[s, x], argTypes := #[t, t] } := by exact rfl)
    (hs : a.eval s = v := by exact rfl) (hx : a.eval x = .slice (some ⟨w1.heap.size, 0, none⟩) 1 1 := by exact rfl) :
    wpList P ops Q (o :: rest) a (w1.alloc (.cells vs.toArray e fz)) := by
  refine wpList_plain hgd fun K hK => ?_
  obtain ⟨v', w', hr', h2, h3⟩ := run_ownP (P := P) (ty := o.type) (fz := fz) ht hi hz hsize hby hzs hsz hp hb hr hl h1 h63 hbytes
  unfold Oper.wp execOp
  simp only [ho, resolve, invoke, builtin, Sem.run_bind, Sem.run_pure, Result.andThen_ok, List.map_toArray, List.map_cons, List.map_nil, hs, hx, hr']
  exact hK _ _ (h v' w' h2 h3)
end
end Go.Proofs.YtcpadaelgdmipaaGreatDoor
