/- Data in memory: what a cell holds, to whatever depth; kept while the blocks that it reaches are kept. No program in sight. -/
import Derived.Below
import Derived.Laws.AppendOwn
import Derived.OpenShut
namespace Go.Proofs.YtcpadaelgdmipaaGreatDoor
open Go.RowKit

/-- What a cell holds: a number, a truth value, a text, or a slice of so many rows of so many cells, told one after the other. -/
inductive D where
  | int (n : Int)
  | bool (b : Bool)
  | str (s : ByteArray)
  | sl (n size : Nat) (ds : List D)

mutual
/-- The value holds this, all that it reaches in blocks of S. -/
def D.At (w : World) (S : Nat → Prop) : D → Value → Prop
  | .int n, v => v = .int .i64 n ∧ -9223372036854775808 ≤ n ∧ n ≤ 9223372036854775807
  | .bool b, v => v = .bool b
  | .str s, v => v = .string s ∧ s.size ≤ maxLen
  | .sl n size ds, v => ∃ (A : Option Addr) (cap : Nat) (xs : List Value), v = .slice A n cap ∧ n ≤ cap ∧ cap ≤ maxLen ∧ xs.length = n * size ∧
      (0 < n → ∃ b off, A = some ⟨b, off, none⟩ ∧ S b ∧ b < w.heap.size ∧ ∀ j u, xs[j]? = some u → w.cell? ⟨b, off + j, none⟩ = some u) ∧ D.Ats w S ds xs
def D.Ats (w : World) (S : Nat → Prop) : List D → List Value → Prop
  | [], xs => xs = []
  | d :: r, xs => ∃ v vs, xs = v :: vs ∧ D.At w S d v ∧ D.Ats w S r vs
end

mutual
theorem D.At.keep {w w' : World} {S S' : Nat → Prop} (hk : ∀ b, b < w.heap.size → S b → w'.heap[b]? = w.heap[b]? ∧ S' b ∧ b < w'.heap.size) : ∀ (d : D) (v : Value), D.At w S d v → D.At w' S' d v
  | .int _, _, h => h
  | .bool _, _, h => h
  | .str _, _, h => h
  | .sl n size ds, v, h => by
    unfold D.At at h ⊢
    obtain ⟨A, cap, xs, hv, h1, h2, h3, h4, h5⟩ := h
    refine ⟨A, cap, xs, hv, h1, h2, h3, fun hn => ?_, D.Ats.keep hk ds xs h5⟩
    obtain ⟨b, off, hA, hS, hb, hc⟩ := h4 hn
    obtain ⟨g1, g2, g3⟩ := hk b hb hS
    exact ⟨b, off, hA, g2, g3, fun j u hu => (World.cell?_of_block (a := ⟨b, off + j, none⟩) g1).trans (hc j u hu)⟩
theorem D.Ats.keep {w w' : World} {S S' : Nat → Prop} (hk : ∀ b, b < w.heap.size → S b → w'.heap[b]? = w.heap[b]? ∧ S' b ∧ b < w'.heap.size) : ∀ (ds : List D) (xs : List Value), D.Ats w S ds xs → D.Ats w' S' ds xs
  | [], _, h => h
  | d :: r, xs, h => by
    unfold D.Ats at h ⊢
    obtain ⟨v, vs, hx, h1, h2⟩ := h
    exact ⟨v, vs, hx, D.At.keep hk d v h1, D.Ats.keep hk r vs h2⟩
end

section
variable {w w' : World} {S S' : Nat → Prop}
/-- Whatever blocks: 'anywhere'. -/
def anyB : Nat → Prop := fun _ => True
theorem D.At.below {d : D} {v : Value} (h : D.At w S d v) (hb : Below w.heap.size w w') : D.At w' S d v :=
  h.keep (fun b hlt hS => ⟨hb.block b hlt, hS, Nat.lt_of_lt_of_le hlt hb.size⟩) _ _
theorem D.Ats.below {d : List D} {v : List Value} (h : D.Ats w S d v) (hb : Below w.heap.size w w') : D.Ats w' S d v :=
  h.keep (fun b hlt hS => ⟨hb.block b hlt, hS, Nat.lt_of_lt_of_le hlt hb.size⟩) _ _
theorem D.At.weaken {d : D} {v : Value} (h : D.At w S d v) (hS : ∀ b, S b → S' b) : D.At w S' d v := h.keep (fun b hlt hs => ⟨rfl, hS b hs, hlt⟩) _ _
theorem D.Ats.weaken {d : List D} {v : List Value} (h : D.Ats w S d v) (hS : ∀ b, S b → S' b) : D.Ats w S' d v := h.keep (fun b hlt hs => ⟨rfl, hS b hs, hlt⟩) _ _
theorem D.At.set {d : D} {v : Value} (h : D.At w S d v) {p : Addr} (hp : ¬ S p.block) (u : Value) : D.At (w.setCell p u) S d v :=
  h.keep (fun b hlt hs => ⟨Below.heap_setCell w p u b (fun e => hp (e ▸ hs)), hs, by simpa [World.setCell] using hlt⟩) _ _
theorem D.Ats.set {d : List D} {v : List Value} (h : D.Ats w S d v) {p : Addr} (hp : ¬ S p.block) (u : Value) : D.Ats (w.setCell p u) S d v :=
  h.keep (fun b hlt hs => ⟨Below.heap_setCell w p u b (fun e => hp (e ▸ hs)), hs, by simpa [World.setCell] using hlt⟩) _ _
theorem D.At.drew {d : D} {v : Value} (h : D.At w S d v) : D.At w.drew S d v := D.At.keep (w := w) (w' := w.drew) (S := S) (S' := S) (fun _ hlt hs => ⟨rfl, hs, hlt⟩) _ _ h
theorem D.Ats.drew {d : List D} {v : List Value} (h : D.Ats w S d v) : D.Ats w.drew S d v := D.Ats.keep (w := w) (w' := w.drew) (S := S) (S' := S) (fun _ hlt hs => ⟨rfl, hs, hlt⟩) _ _ h
theorem D.Ats.length {ds : List D} {xs : List Value} (h : D.Ats w S ds xs) : xs.length = ds.length := by
  induction ds generalizing xs with
  | nil => simp only [D.Ats] at h; simp [h]
  | cons d r ih =>
    simp only [D.Ats] at h
    obtain ⟨v, vs, rfl, _, h2⟩ := h
    simp [ih h2]
theorem D.Ats.nil : D.Ats w S [] [] := by simp only [D.Ats]
theorem D.Ats.cons {d : D} {r : List D} {v : Value} {vs : List Value} (h : D.At w S d v) (hr : D.Ats w S r vs) : D.Ats w S (d :: r) (v :: vs) := by
  simp only [D.Ats]; exact ⟨v, vs, rfl, h, hr⟩
theorem D.Ats.append {a b : List D} {xs ys : List Value} (h : D.Ats w S a xs) (h' : D.Ats w S b ys) : D.Ats w S (a ++ b) (xs ++ ys) := by
  induction a generalizing xs with
  | nil => simp only [D.Ats] at h; subst h; exact h'
  | cons d r ih =>
    simp only [D.Ats] at h
    obtain ⟨v, vs, rfl, h1, h2⟩ := h
    exact D.Ats.cons h1 (ih h2)
theorem D.Ats.split {a b : List D} {xs : List Value} (h : D.Ats w S (a ++ b) xs) : ∃ ys zs, xs = ys ++ zs ∧ D.Ats w S a ys ∧ D.Ats w S b zs := by
  induction a generalizing xs with
  | nil => exact ⟨[], xs, rfl, D.Ats.nil, h⟩
  | cons d r ih =>
    simp only [List.cons_append, D.Ats] at h
    obtain ⟨v, vs, rfl, h1, h2⟩ := h
    obtain ⟨ys, zs, rfl, g1, g2⟩ := ih h2
    exact ⟨v :: ys, zs, rfl, D.Ats.cons h1 g1, g2⟩
theorem D.Ats.one {d : D} {xs : List Value} (h : D.Ats w S [d] xs) : ∃ v, xs = [v] ∧ D.At w S d v := by
  simp only [D.Ats] at h
  obtain ⟨v, vs, rfl, h1, rfl⟩ := h
  exact ⟨v, rfl, h1⟩
/-- A block is just these cells. -/
def Box (w : World) (g : Nat) (t : TypeId) (cs : List Value) : Prop := w.heap[g]? = some (.cells cs.toArray t (0, 0))
theorem Box.lt {g : Nat} {t : TypeId} {cs : List Value} (h : Box w g t cs) : g < w.heap.size := (Array.getElem?_eq_some_iff.1 h).1
theorem Box.call {g : Nat} {t : TypeId} {cs : List Value} (h : Box w g t cs) (hb : Below w.heap.size w w') : Box w' g t cs := (hb.block g h.lt).trans h
theorem Box.cell {g : Nat} {t : TypeId} {cs : List Value} (h : Box w g t cs) : ∀ j, w.cell? ⟨g, j, none⟩ = cs.toArray[j]? := fun j => cell_of_row w g j _ t (0, 0) h
theorem Box.frozen {g : Nat} {t : TypeId} {cs : List Value} (h : Box w g t cs) : ∀ j, w.frozen? ⟨g, j, none⟩ = false := fun j => by unfold Box at h; simp [World.frozen?, h]
theorem Box.new (w : World) (t : TypeId) (cs : List Value) : Box (w.alloc (.cells cs.toArray t)) w.heap.size t cs := heap_alloc_new w _
theorem Box.alloc {g : Nat} {t : TypeId} {cs : List Value} (h : Box w g t cs) (o : Obj) : Box (w.alloc o) g t cs := (Below.heap_alloc w o g h.lt).trans h
theorem Box.drew {g : Nat} {t : TypeId} {cs : List Value} (h : Box w g t cs) : Box w.drew g t cs := h
/-- Behind the first call of a function with one boxed parameter; with two. -/
theorem box1 {tA : TypeId} {cA : List Value} {w1 : World} (hb : Below (w.alloc (.cells cA.toArray tA)).heap.size (w.alloc (.cells cA.toArray tA)) w1) : Below w.heap.size w w1 ∧ Box w1 w.heap.size tA cA :=
  ⟨((Below.refl _ _).alloc (Nat.le_refl _) _).trans (hb.mono (by simp)), (Box.new w tA cA).call hb⟩
theorem box2 {tA tB : TypeId} {cA cB : List Value} {w1 : World} (hb : Below ((w.alloc (.cells cA.toArray tA)).alloc (.cells cB.toArray tB)).heap.size ((w.alloc (.cells cA.toArray tA)).alloc (.cells cB.toArray tB)) w1) :
    Below w.heap.size w w1 ∧ Box w1 w.heap.size tA cA ∧ Box w1 (w.heap.size + 1) tB cB := by
  refine ⟨(((Below.refl _ _).alloc (Nat.le_refl _) _).alloc (by simp) _).trans (hb.mono (by simp; omega)), ((Box.new w tA cA).alloc _).call hb, ?_⟩
  have := (Box.new (w.alloc (.cells cA.toArray tA)) tB cB).call hb
  simpa using this
/-- The rows of a slice: row i's cells, in memory. -/
theorem D.At.row {α : Type} {f : α → List D} {size : Nat} {l : List α} {v : Value} (hf : ∀ x, (f x).length = size) (h : D.At w S (.sl l.length size (l.flatMap f)) v) :
    (∃ A cap, v = .slice A l.length cap ∧ l.length ≤ cap ∧ cap ≤ maxLen) ∧
    ∀ i x, l[i]? = some x → ∃ b off cap us, v = .slice (some ⟨b, off, none⟩) l.length cap ∧ S b ∧ b < w.heap.size ∧ D.Ats w S (f x) us ∧ us.length = size ∧ ∀ j u, us[j]? = some u → w.cell? ⟨b, off + i * size + j, none⟩ = some u := by
  simp only [D.At] at h
  obtain ⟨A, cap, xs, rfl, h1, h2, h3, h4, h5⟩ := h
  refine ⟨⟨A, cap, rfl, h1, h2⟩, fun i x hx => ?_⟩
  have hi : i < l.length := (List.getElem?_eq_some_iff.1 hx).1
  obtain ⟨b, off, rfl, hS, hb, hc⟩ := h4 (by omega)
  clear h1 h2 h3 h4
  have key : ∀ (l : List α) (i : Nat) (xs : List Value) , l[i]? = some x → D.Ats w S (l.flatMap f) xs → ∃ us, D.Ats w S (f x) us ∧ us.length = size ∧ ∀ j u, us[j]? = some u → xs[i * size + j]? = some u := by
    intro l
    induction l with
    | nil => intro i xs h; simp at h
    | cons y r ih =>
      intro i xs h hxs
      rw [List.flatMap_cons] at hxs
      obtain ⟨ys, zs, rfl, g1, g2⟩ := hxs.split
      have hl : ys.length = size := by rw [g1.length, hf]
      cases i with
      | zero =>
        simp at h
        subst h
        exact ⟨ys, g1, hl, fun j u hu => by rw [Nat.zero_mul, Nat.zero_add, List.getElem?_append_left (List.getElem?_eq_some_iff.1 hu).1]; exact hu⟩
      | succ i =>
        obtain ⟨us, q1, q2, q3⟩ := ih i zs (by simpa using h) g2
        refine ⟨us, q1, q2, fun j u hu => ?_⟩
        have e : (i + 1) * size + j = ys.length + (i * size + j) := by rw [hl, Nat.add_mul]; omega
        rw [e, List.getElem?_append_right (by omega)]
        have : ys.length + (i * size + j) - ys.length = i * size + j := by omega
        rw [this]
        exact q3 j u hu
  obtain ⟨us, q1, q2, q3⟩ := key l i xs hx h5
  exact ⟨b, off, cap, us, rfl, hS, hb, q1, q2, fun j u hu => by rw [Nat.add_assoc]; exact hc _ _ (q3 j u hu)⟩
/-- A row that the call owns reads as a slice. -/
theorem D.At.of_own {base : Nat} {e : TypeId} {size n : Nat} {v : Value} {xs : List Value} {ds : List D} (ho : w.ownsRow base e size v n xs) (hS : ∀ b, base ≤ b → S b) (h : D.Ats w S ds xs) (hn : n ≤ maxLen) : D.At w S (.sl n size ds) v := by
  simp only [D.At]
  rcases ho.2 with ⟨rfl, rfl⟩ | ⟨g, cap, cur, rfl, hb, hg, hnc, hcm, hcs, htake⟩
  · exact ⟨none, 0, xs, rfl, Nat.le_refl _, Nat.zero_le _, ho.1, fun h => absurd h (by omega), h⟩
  · refine ⟨some ⟨g, 0, none⟩, cap, xs, rfl, hnc, hcm, ho.1, fun _ => ⟨g, 0, rfl, hS g hb, (Array.getElem?_eq_some_iff.1 hg).1, fun j u hu => ?_⟩, h⟩
    have := ho.cells (g := g) rfl j u hu
    rw [Addr.add_lit] at this
    exact this
end
end Go.Proofs.YtcpadaelgdmipaaGreatDoor
