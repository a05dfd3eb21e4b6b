/- Data in memory, each slice in a block of its own; marks laid into all of it. No program in sight. -/
import Derived.Test.YtcpadaelgdmipaaGreatDoorTree
namespace Go.Proofs.YtcpadaelgdmipaaGreatDoor
open Go.RowKit

mutual
/-- The value holds this, each slice of it in a block of its own: these, in order. -/
def D.Sep (w : World) : D → List Nat → Value → Prop
  | .int n, l, v => l = [] ∧ v = .int .i64 n ∧ -9223372036854775808 ≤ n ∧ n ≤ 9223372036854775807
  | .bool b, l, v => l = [] ∧ v = .bool b
  | .str s, l, v => l = [] ∧ v = .string s ∧ s.size ≤ maxLen
  | .sl n size ds, l, v => ∃ (A : Option Addr) (cap : Nat) (xs : List Value), v = .slice A n cap ∧ n ≤ cap ∧ cap ≤ maxLen ∧ xs.length = n * size ∧
      ((n = 0 ∧ l = [] ∧ D.Seps w ds [] xs) ∨
       (0 < n ∧ ∃ (g : Nat) (r : List Nat) (cur : Array Value) (e : TypeId), A = some ⟨g, 0, none⟩ ∧ l = g :: r ∧ w.heap[g]? = some (.cells cur e (0, 0)) ∧ cur.toList.take (n * size) = xs ∧ D.Seps w ds r xs))
def D.Seps (w : World) : List D → List Nat → List Value → Prop
  | [], l, xs => l = [] ∧ xs = []
  | d :: q, l, xs => ∃ (l1 l2 : List Nat) (v : Value) (vs : List Value), l = l1 ++ l2 ∧ xs = v :: vs ∧ D.Sep w d l1 v ∧ D.Seps w q l2 vs
end
mutual
theorem D.Sep.keep {w w' : World} : ∀ (d : D) (l : List Nat) (v : Value), (∀ b ∈ l, w'.heap[b]? = w.heap[b]?) → D.Sep w d l v → D.Sep w' d l v
  | .int _, _, _, _, h => by unfold D.Sep at h ⊢; exact h
  | .bool _, _, _, _, h => by unfold D.Sep at h ⊢; exact h
  | .str _, _, _, _, h => by unfold D.Sep at h ⊢; exact h
  | .sl n size ds, l, v, hk, h => by
    unfold D.Sep at h ⊢
    obtain ⟨A, cap, xs, hv, h1, h2, h3, h4⟩ := h
    refine ⟨A, cap, xs, hv, h1, h2, h3, ?_⟩
    rcases h4 with ⟨hn, hl, hs⟩ | ⟨hn, g, r, cur, e, hA, hl, hg, ht, hs⟩
    · exact .inl ⟨hn, hl, D.Seps.keep ds [] xs (fun b hb => by cases hb) hs⟩
    · subst hl
      exact .inr ⟨hn, g, r, cur, e, hA, rfl, (hk g (by simp)).trans hg, ht, D.Seps.keep ds r xs (fun b hb => hk b (by simp [hb])) hs⟩
theorem D.Seps.keep {w w' : World} : ∀ (ds : List D) (l : List Nat) (xs : List Value), (∀ b ∈ l, w'.heap[b]? = w.heap[b]?) → D.Seps w ds l xs → D.Seps w' ds l xs
  | [], _, _, _, h => by unfold D.Seps at h ⊢; exact h
  | d :: q, l, xs, hk, h => by
    unfold D.Seps at h ⊢
    obtain ⟨l1, l2, v, vs, rfl, hx, h1, h2⟩ := h
    exact ⟨l1, l2, v, vs, rfl, hx, D.Sep.keep d l1 v (fun b hb => hk b (by simp [hb])) h1, D.Seps.keep q l2 vs (fun b hb => hk b (by simp [hb])) h2⟩
end
mutual
/-- All its blocks are there. -/
theorem D.Sep.lt {w : World} : ∀ (d : D) (l : List Nat) (v : Value), D.Sep w d l v → ∀ b ∈ l, b < w.heap.size
  | .int _, l, v, h => by unfold D.Sep at h; obtain ⟨rfl, -⟩ := h; intro b hb; cases hb
  | .bool _, l, v, h => by unfold D.Sep at h; obtain ⟨rfl, -⟩ := h; intro b hb; cases hb
  | .str _, l, v, h => by unfold D.Sep at h; obtain ⟨rfl, -⟩ := h; intro b hb; cases hb
  | .sl n size ds, l, v, h => by
    unfold D.Sep at h
    obtain ⟨A, cap, xs, hv, h1, h2, h3, h4⟩ := h
    rcases h4 with ⟨hn, rfl, hs⟩ | ⟨hn, g, r, cur, e, hA, rfl, hg, ht, hs⟩
    · intro b hb; cases hb
    · intro b hb
      rcases List.mem_cons.1 hb with rfl | hb
      · exact (Array.getElem?_eq_some_iff.1 hg).1
      · exact D.Seps.lt ds r xs hs b hb
theorem D.Seps.lt {w : World} : ∀ (ds : List D) (l : List Nat) (xs : List Value), D.Seps w ds l xs → ∀ b ∈ l, b < w.heap.size
  | [], l, xs, h => by unfold D.Seps at h; obtain ⟨rfl, -⟩ := h; intro b hb; cases hb
  | d :: q, l, xs, h => by
    unfold D.Seps at h
    obtain ⟨l1, l2, v, vs, rfl, hx, h1, h2⟩ := h
    intro b hb
    rcases List.mem_append.1 hb with hb | hb
    · exact D.Sep.lt d l1 v h1 b hb
    · exact D.Seps.lt q l2 vs h2 b hb
end
mutual
/-- It reads as such. -/
theorem D.Sep.at_ {w : World} {S : Nat → Prop} : ∀ (d : D) (l : List Nat) (v : Value), (∀ b ∈ l, S b) → D.Sep w d l v → D.At w S d v
  | .int _, l, v, _, h => by unfold D.Sep at h; unfold D.At; exact h.2
  | .bool _, l, v, _, h => by unfold D.Sep at h; unfold D.At; exact h.2
  | .str _, l, v, _, h => by unfold D.Sep at h; unfold D.At; exact h.2
  | .sl n size ds, l, v, hS, h => by
    unfold D.Sep at h
    unfold D.At
    obtain ⟨A, cap, xs, hv, h1, h2, h3, h4⟩ := h
    rcases h4 with ⟨hn, rfl, hs⟩ | ⟨hn, g, r, cur, e, hA, rfl, hg, ht, hs⟩
    · exact ⟨A, cap, xs, hv, h1, h2, h3, fun h => absurd h (by omega), D.Seps.at_ ds [] xs hS hs⟩
    · refine ⟨A, cap, xs, hv, h1, h2, h3, fun _ => ⟨g, 0, hA, hS g (by simp), (Array.getElem?_eq_some_iff.1 hg).1, fun j u hu => ?_⟩, D.Seps.at_ ds r xs (fun b hb => hS b (by simp [hb])) hs⟩
      rw [Nat.zero_add, cell_of_row w g j cur e (0, 0) hg]
      rw [← ht, List.getElem?_take] at hu
      split at hu
      · simpa using hu
      · cases hu
theorem D.Seps.at_ {w : World} {S : Nat → Prop} : ∀ (ds : List D) (l : List Nat) (xs : List Value), (∀ b ∈ l, S b) → D.Seps w ds l xs → D.Ats w S ds xs
  | [], l, xs, _, h => by unfold D.Seps at h; unfold D.Ats; exact h.2
  | d :: q, l, xs, hS, h => by
    unfold D.Seps at h
    unfold D.Ats
    obtain ⟨l1, l2, v, vs, rfl, hx, h1, h2⟩ := h
    exact ⟨v, vs, hx, D.Sep.at_ d l1 v (fun b hb => hS b (by simp [hb])) h1, D.Seps.at_ q l2 vs (fun b hb => hS b (by simp [hb])) h2⟩
end
section
variable {w w' : World}
theorem D.Seps.nil : D.Seps w [] [] [] := by unfold D.Seps; exact ⟨rfl, rfl⟩
theorem D.Seps.cons {d : D} {q : List D} {l1 l2 : List Nat} {v : Value} {vs : List Value} (h : D.Sep w d l1 v) (hq : D.Seps w q l2 vs) : D.Seps w (d :: q) (l1 ++ l2) (v :: vs) := by
  unfold D.Seps; exact ⟨l1, l2, v, vs, rfl, rfl, h, hq⟩
theorem D.Seps.append {a b : List D} {l1 l2 : List Nat} {xs ys : List Value} (h : D.Seps w a l1 xs) (h' : D.Seps w b l2 ys) : D.Seps w (a ++ b) (l1 ++ l2) (xs ++ ys) := by
  induction a generalizing l1 xs with
  | nil => unfold D.Seps at h; obtain ⟨rfl, rfl⟩ := h; exact h'
  | cons d r ih =>
    unfold D.Seps at h
    obtain ⟨k1, k2, v, vs, rfl, rfl, h1, h2⟩ := h
    rw [List.append_assoc]
    exact D.Seps.cons h1 (ih h2)
theorem D.Seps.split {a b : List D} {l : List Nat} {xs : List Value} (h : D.Seps w (a ++ b) l xs) : ∃ l1 l2 ys zs, l = l1 ++ l2 ∧ xs = ys ++ zs ∧ D.Seps w a l1 ys ∧ D.Seps w b l2 zs := by
  induction a generalizing l xs with
  | nil => exact ⟨[], l, [], xs, rfl, rfl, D.Seps.nil, h⟩
  | cons d r ih =>
    rw [List.cons_append] at h
    unfold D.Seps at h
    obtain ⟨k1, k2, v, vs, rfl, rfl, h1, h2⟩ := h
    obtain ⟨l1, l2, ys, zs, rfl, rfl, g1, g2⟩ := ih h2
    exact ⟨k1 ++ l1, l2, v :: ys, zs, by simp, rfl, D.Seps.cons h1 g1, g2⟩
theorem D.Seps.length {ds : List D} {l : List Nat} {xs : List Value} (h : D.Seps w ds l xs) : xs.length = ds.length := (D.Seps.at_ (S := anyB) ds l xs (fun _ _ => trivial) h).length
theorem D.Seps.one {d : D} {l : List Nat} {xs : List Value} (h : D.Seps w [d] l xs) : ∃ v, xs = [v] ∧ D.Sep w d l v := by
  unfold D.Seps at h
  obtain ⟨k1, k2, v, vs, rfl, rfl, h1, h2⟩ := h
  unfold D.Seps at h2
  obtain ⟨rfl, rfl⟩ := h2
  exact ⟨v, rfl, by simpa using h1⟩
theorem D.Seps.head {d : D} {q : List D} {l : List Nat} {xs : List Value} (h : D.Seps w (d :: q) l xs) : ∃ l1 l2 v vs, l = l1 ++ l2 ∧ xs = v :: vs ∧ D.Sep w d l1 v ∧ D.Seps w q l2 vs := by
  unfold D.Seps at h; exact h
theorem D.Seps.mk {ds : List D} {l l' : List Nat} {xs xs' : List Value} (h : D.Seps w ds l xs) (hl : l = l') (hx : xs = xs') : D.Seps w ds l' xs' := by subst hl hx; exact h
/-- Only these blocks may have turned. -/
structure Wr (l : List Nat) (w w' : World) : Prop where
  os : w'.os = w.os
  tape : w'.tape = w.tape
  output : w'.output = w.output
  size : w.heap.size ≤ w'.heap.size
  block : ∀ b, b < w.heap.size → b ∉ l → w'.heap[b]? = w.heap[b]?
theorem Wr.refl (l : List Nat) (w : World) : Wr l w w := ⟨rfl, rfl, rfl, Nat.le_refl _, fun _ _ _ => rfl⟩
theorem Wr.trans {l : List Nat} {a b c : World} (h : Wr l a b) (k : Wr l b c) : Wr l a c :=
  ⟨k.os.trans h.os, k.tape.trans h.tape, k.output.trans h.output, Nat.le_trans h.size k.size, fun i hi hn => (k.block i (Nat.lt_of_lt_of_le hi h.size) hn).trans (h.block i hi hn)⟩
theorem Wr.mono {l l' : List Nat} (h : Wr l w w') (hs : ∀ b ∈ l, b ∈ l') : Wr l' w w' := ⟨h.os, h.tape, h.output, h.size, fun b hb hn => h.block b hb (fun hm => hn (hs b hm))⟩
theorem Wr.of_below {l : List Nat} (h : Below w.heap.size w w') : Wr l w w' := ⟨h.os, h.tape, h.output, h.size, fun b hb _ => h.block b hb⟩
theorem Wr.set {l : List Nat} {a : World} (h : Wr l a w) {p : Addr} (hp : p.block ∈ l) (u : Value) : Wr l a (w.setCell p u) :=
  h.trans ⟨rfl, rfl, rfl, by simp [World.setCell], fun b _ hn => Below.heap_setCell _ _ _ _ (fun e => hn (e ▸ hp))⟩
theorem Wr.below {l : List Nat} {B : Nat} (h : Wr l w w') (hB : B ≤ w.heap.size) (hl : ∀ b ∈ l, B ≤ b) : Below B w w' :=
  ⟨h.os, h.tape, h.output, h.size, fun b hb => h.block b (by omega) (fun hm => by have := hl b hm; omega)⟩
theorem D.Sep.wr {d : D} {l l' : List Nat} {v : Value} (h : D.Sep w d l v) (hw : Wr l' w w') (hd : ∀ b ∈ l, b ∉ l') : D.Sep w' d l v :=
  D.Sep.keep d l v (fun b hb => hw.block b (D.Sep.lt d l v h b hb) (hd b hb)) h
theorem D.Seps.wr {d : List D} {l l' : List Nat} {v : List Value} (h : D.Seps w d l v) (hw : Wr l' w w') (hd : ∀ b ∈ l, b ∉ l') : D.Seps w' d l v :=
  D.Seps.keep d l v (fun b hb => hw.block b (D.Seps.lt d l v h b hb) (hd b hb)) h
theorem D.Sep.below {d : D} {l : List Nat} {v : Value} (h : D.Sep w d l v) (hw : Below w.heap.size w w') : D.Sep w' d l v :=
  D.Sep.keep d l v (fun b hb => hw.block b (D.Sep.lt d l v h b hb)) h
theorem D.Seps.below {d : List D} {l : List Nat} {v : List Value} (h : D.Seps w d l v) (hw : Below w.heap.size w w') : D.Seps w' d l v :=
  D.Seps.keep d l v (fun b hb => hw.block b (D.Seps.lt d l v h b hb)) h
/-- In a row: what stands at a place, and what may be put there. -/
theorem D.Sep.field {n size : Nat} {P R : List D} {d : D} {l : List Nat} {A : Option Addr} {c : Nat} (h : D.Sep w (.sl n size (P ++ d :: R)) l (.slice A n c)) (hnd : l.Nodup) :
    ∃ (g : Nat) (l2 : List Nat) (x : Value), A = some ⟨g, 0, none⟩ ∧ g ∈ l ∧ g < w.heap.size ∧ w.cell? ⟨g, P.length, none⟩ = some x ∧ w.frozen? ⟨g, P.length, none⟩ = false ∧ D.Sep w d l2 x ∧ l2.Nodup ∧ (∀ b ∈ l2, b ∈ l) ∧ g ∉ l2 ∧
      (∀ d' u, (∀ w2, D.Sep w2 d' [] u) → (∀ w2, D.Sep w2 d [] x) → D.Sep (w.setCell ⟨g, P.length, none⟩ u) (.sl n size (P ++ d' :: R)) l (.slice A n c)) ∧
      (∀ d' w2, Wr l2 w w2 → D.Sep w2 d' l2 x → D.Sep w2 (.sl n size (P ++ d' :: R)) l (.slice A n c)) := by
  have hlen : (P ++ d :: R).length = n * size := by
    unfold D.Sep at h
    obtain ⟨A', cap, xs, hv, h1, h2, h3, h4⟩ := h
    rcases h4 with ⟨hn, rfl, hs⟩ | ⟨hn, g, r, cur, e, hA, rfl, hg, ht, hs⟩
    · rw [← hs.length, h3]
    · rw [← hs.length, h3]
  unfold D.Sep at h
  obtain ⟨A', cap, xs, hv, h1, h2, h3, h4⟩ := h
  injection hv with e1 e2 e3
  subst e1 e3
  rcases h4 with ⟨hn, rfl, hs⟩ | ⟨hn, g, r, cur, e, hA, rfl, hg, ht, hs⟩
  · subst hn
    simp at hlen
  · obtain ⟨l1, l23, ys, zs, rfl, rfl, s1, s23⟩ := hs.split
    obtain ⟨l2, l3, x, vs, rfl, rfl, s2, s3⟩ := s23.head
    have hy : ys.length = P.length := s1.length
    have hgl : g < w.heap.size := (Array.getElem?_eq_some_iff.1 hg).1
    have hcur : cur[P.length]? = some x := by
      have : (cur.toList.take (n * size))[P.length]? = some x := by rw [ht, ← hy]; simp
      rw [List.getElem?_take] at this
      split at this
      · simpa using this
      · cases this
    have hnd' := List.nodup_cons.1 hnd
    have hnd2 := List.nodup_append.1 hnd'.2
    have hnd3 := List.nodup_append.1 hnd2.2.1
    refine ⟨g, l2, x, hA, by simp, hgl, ?_, ?_, s2, hnd3.1, fun b hb => by simp [hb], fun hm => hnd'.1 (by simp [hm]), ?_, ?_⟩
    · rw [cell_of_row w g _ cur e (0, 0) hg]; exact hcur
    · simp [World.frozen?, hg]
    · intro d' u hu hd
      have hl2 : l2 = [] := by
        have h0 := hd w
        cases d with
        | int _ => unfold D.Sep at s2; exact s2.1
        | bool _ => unfold D.Sep at s2; exact s2.1
        | str _ => unfold D.Sep at s2; exact s2.1
        | sl n' s' ds' =>
          unfold D.Sep at h0 s2
          obtain ⟨A1, c1, xs1, rfl, -, -, -, k4⟩ := h0
          obtain ⟨A2, c2, xs2, e4, -, -, -, k5⟩ := s2
          rcases k4 with ⟨k0, -, -⟩ | ⟨k0, g0, r0, _, _, _, k6, _⟩
          · rcases k5 with ⟨_, k7, _⟩ | ⟨k7, _⟩
            · exact k7
            · omega
          · cases k6
      subst hl2
      have hset : (w.setCell ⟨g, P.length, none⟩ u).heap[g]? = some (.cells (cur.setIfInBounds P.length u) e (0, 0)) := by
        simp [World.setCell, Array.getElem?_modify, hg]
      have hkeep : ∀ b, b ∈ l1 ∨ b ∈ l3 → (w.setCell ⟨g, P.length, none⟩ u).heap[b]? = w.heap[b]? := fun b hb =>
        Below.heap_setCell _ _ _ _ (fun e => hnd'.1 (by rcases hb with hb | hb <;> (rw [← show b = g from e]; simp [hb])))
      unfold D.Sep
      refine ⟨_, _, ys ++ u :: vs, rfl, h1, h2, by simpa using h3, .inr ⟨hn, g, l1 ++ ([] ++ l3), _, e, hA, rfl, hset, ?_, ?_⟩⟩
      · rw [Array.toList_setIfInBounds, List.take_set, ht, ← hy]
        simp
      · exact (s1.keep _ _ _ (fun b hb => hkeep b (.inl hb))).append (D.Seps.cons (hu _) (s3.keep _ _ _ (fun b hb => hkeep b (.inr hb))))
    · intro d' w2 hw h'
      have d1 : ∀ b ∈ l1, b ∉ l2 := fun b hb hm => hnd2.2.2 b hb b (by simp [hm]) rfl
      have d3 : ∀ b ∈ l3, b ∉ l2 := fun b hb hm => hnd3.2.2 b hm b hb rfl
      unfold D.Sep
      exact ⟨_, _, ys ++ x :: vs, rfl, h1, h2, by simpa using h3, .inr ⟨hn, g, l1 ++ (l2 ++ l3), cur, e, hA, rfl, (hw.block g hgl (fun hm => hnd'.1 (by simp [hm]))).trans hg, ht,
        (s1.wr hw d1).append (D.Seps.cons h' (s3.wr hw d3))⟩⟩
theorem D.Sep.int_ {n : Int} (h : -9223372036854775808 ≤ n ∧ n ≤ 9223372036854775807) : ∀ w2, D.Sep w2 (.int n) [] (.int .i64 n) := fun w2 => by unfold D.Sep; exact ⟨rfl, rfl, h⟩
theorem D.Sep.bool_ {b : Bool} : ∀ w2, D.Sep w2 (.bool b) [] (.bool b) := fun w2 => by unfold D.Sep; exact ⟨rfl, rfl⟩
theorem D.Sep.str_ {s : ByteArray} (h : s.size ≤ maxLen) : ∀ w2, D.Sep w2 (.str s) [] (.string s) := fun w2 => by unfold D.Sep; exact ⟨rfl, rfl, h⟩
theorem D.Sep.int_form {n : Int} {l : List Nat} {v : Value} (h : D.Sep w (.int n) l v) : v = .int .i64 n ∧ ∀ w2, D.Sep w2 (.int n) [] v := by
  unfold D.Sep at h
  obtain ⟨rfl, rfl, h⟩ := h
  exact ⟨rfl, D.Sep.int_ h⟩
theorem D.Sep.bool_form {n : Bool} {l : List Nat} {v : Value} (h : D.Sep w (.bool n) l v) : v = .bool n ∧ ∀ w2, D.Sep w2 (.bool n) [] v := by
  unfold D.Sep at h
  obtain ⟨rfl, rfl⟩ := h
  exact ⟨rfl, D.Sep.bool_⟩
theorem D.Sep.str_form {n : ByteArray} {l : List Nat} {v : Value} (h : D.Sep w (.str n) l v) : v = .string n ∧ ∀ w2, D.Sep w2 (.str n) [] v := by
  unfold D.Sep at h
  obtain ⟨rfl, rfl, h⟩ := h
  exact ⟨rfl, D.Sep.str_ h⟩
theorem D.Sep.sl_form {n size : Nat} {ds : List D} {l : List Nat} {v : Value} (h : D.Sep w (.sl n size ds) l v) : ∃ A c, v = .slice A n c ∧ n ≤ c ∧ c ≤ maxLen ∧ ds.length = n * size := by
  unfold D.Sep at h
  obtain ⟨A, c, xs, rfl, h1, h2, h3, h4⟩ := h
  refine ⟨A, c, rfl, h1, h2, ?_⟩
  rcases h4 with ⟨hn, rfl, hs⟩ | ⟨hn, g, r, cur, e, hA, rfl, hg, ht, hs⟩
  · rw [← hs.length, h3]
  · rw [← hs.length, h3]
/-- An empty slice, whatever it points at. -/
theorem D.Sep.empty {A : Option Addr} {c size : Nat} (h : c ≤ maxLen) : D.Sep w (.sl 0 size []) [] (.slice A 0 c) := by
  unfold D.Sep
  exact ⟨A, c, [], rfl, Nat.zero_le _, h, by simp, .inl ⟨rfl, rfl, D.Seps.nil⟩⟩
/-- A row that the call owns, of such elements. -/
theorem D.Sep.of_own {base : Nat} {e : TypeId} {size n : Nat} {v : Value} {xs : List Value} {ds : List D} {r : List Nat} (ho : w.ownsRow base e size v n xs) (h : D.Seps w ds r xs) (hn : 0 < n) :
    ∃ g, v.ownBlock = some g ∧ D.Sep w (.sl n size ds) (g :: r) v := by
  rcases ho.2 with ⟨rfl, rfl⟩ | ⟨g, cap, cur, rfl, hb, hg, hnc, hcm, hcs, htake⟩
  · omega
  · refine ⟨g, rfl, ?_⟩
    unfold D.Sep
    exact ⟨_, cap, xs, rfl, hnc, hcm, ho.1, .inr ⟨hn, g, r, cur, e, rfl, rfl, hg, htake, h⟩⟩
theorem D.Sep.block {n size : Nat} {P R : List D} {d : D} {l : List Nat} {A : Option Addr} {c : Nat} (h : D.Sep w (.sl n size (P ++ d :: R)) l (.slice A n c)) (hnd : l.Nodup) : ∃ g, A = some ⟨g, 0, none⟩ ∧ g ∈ l := by
  obtain ⟨g, l2, x, hA, hm, -⟩ := h.field hnd
  exact ⟨g, hA, hm⟩
theorem D.Sep.step_int {n size g : Nat} {P R : List D} {a : Int} {l : List Nat} {c : Nat} (o : Nat) (ho : P.length = o) (h : D.Sep w (.sl n size (P ++ .int a :: R)) l (.slice (some ⟨g, 0, none⟩) n c)) (hnd : l.Nodup) :
    (w.cell? ⟨g, o, none⟩ = some (.int .i64 a) ∧ w.frozen? ⟨g, o, none⟩ = false) ∧
      ∀ m : Int, -9223372036854775808 ≤ m ∧ m ≤ 9223372036854775807 → D.Sep (w.setCell ⟨g, o, none⟩ (.int .i64 m)) (.sl n size ((P ++ [.int m]) ++ R)) l (.slice (some ⟨g, 0, none⟩) n c) := by
  subst ho
  obtain ⟨g', l2, x, hA, -, -, hc, hf, hs, -, -, -, hput, -⟩ := h.field hnd
  cases hA
  obtain ⟨rfl, hx⟩ := hs.int_form
  exact ⟨⟨hc, hf⟩, fun m hm => by rw [List.append_assoc]; exact hput (.int m) _ (D.Sep.int_ hm) hx⟩
theorem D.Sep.step_bool {n size g : Nat} {P R : List D} {a : Bool} {l : List Nat} {c : Nat} (o : Nat) (ho : P.length = o) (h : D.Sep w (.sl n size (P ++ .bool a :: R)) l (.slice (some ⟨g, 0, none⟩) n c)) (hnd : l.Nodup) :
    (w.cell? ⟨g, o, none⟩ = some (.bool a) ∧ w.frozen? ⟨g, o, none⟩ = false) ∧
      ∀ m : Bool, D.Sep (w.setCell ⟨g, o, none⟩ (.bool m)) (.sl n size ((P ++ [.bool m]) ++ R)) l (.slice (some ⟨g, 0, none⟩) n c) := by
  subst ho
  obtain ⟨g', l2, x, hA, -, -, hc, hf, hs, -, -, -, hput, -⟩ := h.field hnd
  cases hA
  obtain ⟨rfl, hx⟩ := hs.bool_form
  exact ⟨⟨hc, hf⟩, fun m => by rw [List.append_assoc]; exact hput (.bool m) _ D.Sep.bool_ hx⟩
theorem D.Sep.step_str {n size g : Nat} {P R : List D} {a : ByteArray} {l : List Nat} {c : Nat} (o : Nat) (ho : P.length = o) (h : D.Sep w (.sl n size (P ++ .str a :: R)) l (.slice (some ⟨g, 0, none⟩) n c)) (hnd : l.Nodup) :
    (w.cell? ⟨g, o, none⟩ = some (.string a) ∧ w.frozen? ⟨g, o, none⟩ = false) ∧
      ∀ m : ByteArray, m.size ≤ maxLen → D.Sep (w.setCell ⟨g, o, none⟩ (.string m)) (.sl n size ((P ++ [.str m]) ++ R)) l (.slice (some ⟨g, 0, none⟩) n c) := by
  subst ho
  obtain ⟨g', l2, x, hA, -, -, hc, hf, hs, -, -, -, hput, -⟩ := h.field hnd
  cases hA
  obtain ⟨rfl, hx⟩ := hs.str_form
  exact ⟨⟨hc, hf⟩, fun m hm => by rw [List.append_assoc]; exact hput (.str m) _ (D.Sep.str_ hm) hx⟩
theorem D.Sep.step_sl {n size g n2 s2 : Nat} {P R ds : List D} {l : List Nat} {c : Nat} (o : Nat) (ho : P.length = o) (h : D.Sep w (.sl n size (P ++ .sl n2 s2 ds :: R)) l (.slice (some ⟨g, 0, none⟩) n c)) (hnd : l.Nodup) :
    ∃ l2 A2 c2, w.cell? ⟨g, o, none⟩ = some (.slice A2 n2 c2) ∧ D.Sep w (.sl n2 s2 ds) l2 (.slice A2 n2 c2) ∧ l2.Nodup ∧ (∀ b ∈ l2, b ∈ l) ∧
      ∀ ds' w2, Wr l2 w w2 → D.Sep w2 (.sl n2 s2 ds') l2 (.slice A2 n2 c2) → D.Sep w2 (.sl n size ((P ++ [.sl n2 s2 ds']) ++ R)) l (.slice (some ⟨g, 0, none⟩) n c) := by
  subst ho
  obtain ⟨g', l2, x, hA, -, -, hc, -, hs, hn2, hsub, -, -, hput⟩ := h.field hnd
  cases hA
  obtain ⟨A2, c2, rfl, -, -, -⟩ := hs.sl_form
  exact ⟨l2, A2, c2, hc, hs, hn2, hsub, fun ds' w2 hw h2 => by rw [List.append_assoc]; exact hput (.sl n2 s2 ds') w2 hw h2⟩
theorem cell_set_ne (w : World) (g o o' : Nat) (u : Value) (h : o ≠ o') : (w.setCell ⟨g, o, none⟩ u).cell? ⟨g, o', none⟩ = w.cell? ⟨g, o', none⟩ := by
  simp only [World.cell?, World.setCell, Array.getElem?_modify]
  by_cases hb : g < w.heap.size
  · simp only [Array.getElem?_eq_getElem hb, if_true, Option.map_some]
    cases w.heap[g] <;> simp [h]
  · rw [Array.getElem?_eq_none (by omega)]; simp
/-- What a row of a slice holds, told one after the other. -/
theorem D.At.field {S : Nat → Prop} {n size : Nat} {P R : List D} {d : D} {A : Option Addr} {c : Nat} (h : D.At w S (.sl n size (P ++ d :: R)) (.slice A n c)) :
    ∃ g off x, A = some ⟨g, off, none⟩ ∧ g < w.heap.size ∧ w.cell? ⟨g, off + P.length, none⟩ = some x ∧ D.At w S d x := by
  simp only [D.At] at h
  obtain ⟨A', cap, xs, hv, h1, h2, h3, h4, h5⟩ := h
  injection hv with e1 e2 e3
  subst e1 e3
  have hl := h5.length
  obtain ⟨ys, zs, rfl, s1, s2⟩ := h5.split
  have hy := s1.length
  simp only [D.Ats] at s2
  obtain ⟨x, vs, rfl, s3, s4⟩ := s2
  have hn : 0 < n := by
    rcases Nat.eq_zero_or_pos n with e | e
    · subst e; simp at h3
    · exact e
  obtain ⟨b, off, hA, hS, hb, hcell⟩ := h4 hn
  exact ⟨b, off, x, hA, hb, hcell _ _ (by rw [← hy]; simp), s3⟩
theorem D.At.int_form {S : Nat → Prop} {n : Int} {v : Value} (h : D.At w S (.int n) v) : v = .int .i64 n := by simp only [D.At] at h; exact h.1
theorem D.At.bool_form {S : Nat → Prop} {n : Bool} {v : Value} (h : D.At w S (.bool n) v) : v = .bool n := by simpa only [D.At] using h
theorem D.At.str_form {S : Nat → Prop} {n : ByteArray} {v : Value} (h : D.At w S (.str n) v) : v = .string n := by simp only [D.At] at h; exact h.1
theorem D.At.sl_form {S : Nat → Prop} {n size : Nat} {ds : List D} {v : Value} (h : D.At w S (.sl n size ds) v) : ∃ A c, v = .slice A n c ∧ n ≤ c ∧ c ≤ maxLen := by
  simp only [D.At] at h
  obtain ⟨A, c, xs, rfl, h1, h2, -⟩ := h
  exact ⟨A, c, rfl, h1, h2⟩
end
mutual
/-- How many marks. -/
def D.count : D → Nat
  | .int _ => 1
  | .bool _ => 1
  | .str _ => 1
  | .sl _ _ ds => D.counts ds
def D.counts : List D → Nat
  | [] => 0
  | d :: r => D.count d + D.counts r
end
/-- Digits in front of others. -/
def markD : Nat → Nat → List UInt8 → List UInt8
  | 0, _, acc => acc
  | f + 1, k, acc => if k = 0 then acc else markD f (k / 10) (UInt8.ofNat (48 + k % 10) :: acc)
/-- The text of a mark. -/
def markT (k : Nat) : ByteArray := if k = 0 then ⟨#[109, 48]⟩ else ⟨(109 :: markD 20 k []).toArray⟩
mutual
/-- Marks from k on. -/
def D.mark : Nat → D → D
  | k, .int _ => .int k
  | k, .bool _ => .bool (k % 3 == 0)
  | k, .str _ => .str (markT k)
  | k, .sl n size ds => .sl n size (D.marks k ds)
def D.marks : Nat → List D → List D
  | _, [] => []
  | k, d :: r => D.mark k d :: D.marks (k + D.count d) r
end
theorem D.marks_length (k : Nat) (l : List D) : (D.marks k l).length = l.length := by
  induction l generalizing k with
  | nil => rfl
  | cons d r ih => simp [D.marks, ih]
theorem D.counts_append (a b : List D) : D.counts (a ++ b) = D.counts a + D.counts b := by
  induction a with
  | nil => simp [D.counts]
  | cons d r ih => simp only [List.cons_append, D.counts, ih]; omega
theorem D.marks_append (k : Nat) (a b : List D) : D.marks k (a ++ b) = D.marks k a ++ D.marks (k + D.counts a) b := by
  induction a generalizing k with
  | nil => simp [D.counts, D.marks]
  | cons d r ih => simp only [List.cons_append, D.marks, D.counts, ih]; rw [Nat.add_assoc]
theorem rows_split {α : Type} {f : α → List D} {l : List α} {j : Nat} {x : α} (hx : l[j]? = some x) : (l.drop j).flatMap f = f x ++ (l.drop (j + 1)).flatMap f := by
  rw [List.drop_eq_getElem?_toList_append, hx]; simp
theorem flat_take_drop {α : Type} (f : α → List D) (l : List α) (j : Nat) : l.flatMap f = (l.take j).flatMap f ++ (l.drop j).flatMap f := by
  rw [← List.flatMap_append, List.take_append_drop]
theorem counts_take {α : Type} (f : α → List D) (l : List α) (j : Nat) : D.counts ((l.take j).flatMap f) ≤ D.counts (l.flatMap f) := by
  rw [flat_take_drop f l j, D.counts_append]; omega
theorem counts_next {α : Type} {f : α → List D} {l : List α} {j : Nat} {x : α} (hx : l[j]? = some x) : D.counts ((l.take (j + 1)).flatMap f) = D.counts ((l.take j).flatMap f) + D.counts (f x) := by
  rw [take_next hx, D.counts_append]
theorem marks_next {α : Type} {f : α → List D} {l : List α} {j k : Nat} {x : α} (hx : l[j]? = some x) : D.marks k ((l.take (j + 1)).flatMap f) = D.marks k ((l.take j).flatMap f) ++ D.marks (k + D.counts ((l.take j).flatMap f)) (f x) := by
  rw [take_next hx, D.marks_append]
theorem markD_len (f k : Nat) (acc : List UInt8) : (markD f k acc).length ≤ acc.length + f := by
  induction f generalizing k acc with
  | zero => simp [markD]
  | succ f ih =>
    unfold markD
    split
    · omega
    · have := ih (k / 10) (UInt8.ofNat (48 + k % 10) :: acc)
      rw [List.length_cons] at this
      omega
theorem markT_size (k : Nat) : (markT k).size ≤ 21 := by
  unfold markT
  split
  · decide
  · have := markD_len 20 k []
    simp [ByteArray.size]
    simpa using this
end Go.Proofs.YtcpadaelgdmipaaGreatDoor
