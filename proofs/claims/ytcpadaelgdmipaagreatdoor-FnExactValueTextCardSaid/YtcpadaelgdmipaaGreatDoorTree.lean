/- Data trees: how much they hold, whether two are the same; the rows of a slice. No program in sight. -/
import Derived.Test.YtcpadaelgdmipaaGreatDoorData
namespace Go.Proofs.YtcpadaelgdmipaaGreatDoor
open Go.RowKit

mutual
/-- How many letters and places. -/
def D.total : D → Nat
  | .int _ => 0
  | .bool _ => 0
  | .str s => s.size
  | .sl n _ ds => n + D.totals ds
def D.totals : List D → Nat
  | [] => 0
  | d :: r => D.total d + D.totals r
end
mutual
/-- Whether two are the same. -/
def D.same : D → D → Bool
  | .int a, .int b => a == b
  | .bool a, .bool b => a == b
  | .str a, .str b => a.toList == b.toList
  | .sl n _ ds, .sl m _ es => (n == m) && D.sames ds es
  | _, _ => false
def D.sames : List D → List D → Bool
  | [], [] => true
  | x :: r, y :: s => D.same x y && D.sames r s
  | [], _ :: _ => false
  | _ :: _, [] => false
end
mutual
theorem D.same_refl : ∀ d : D, D.same d d = true
  | .int _ => by simp [D.same]
  | .bool _ => by simp [D.same]
  | .str _ => by simp [D.same]
  | .sl _ _ ds => by simp [D.same, D.sames_refl ds]
theorem D.sames_refl : ∀ l : List D, D.sames l l = true
  | [] => by simp [D.sames]
  | x :: r => by simp [D.sames, D.same_refl x, D.sames_refl r]
end
theorem D.totals_append (a b : List D) : D.totals (a ++ b) = D.totals a + D.totals b := by
  induction a with
  | nil => simp [D.totals]
  | cons x r ih => simp only [List.cons_append, D.totals, ih]; omega
theorem D.sames_append {a c : List D} (h : a.length = c.length) (b d : List D) : D.sames (a ++ b) (c ++ d) = (D.sames a c && D.sames b d) := by
  induction a generalizing c with
  | nil => cases c with | nil => simp [D.sames] | cons => simp at h
  | cons x r ih => cases c with | nil => simp at h | cons y s => simp only [List.cons_append, D.sames, ih (by simpa using h), Bool.and_assoc]
/-- A slice of rows. -/
def rows {α : Type} (f : α → List D) (size : Nat) (l : List α) : D := .sl l.length size (l.flatMap f)
def strD (s : ByteArray) : List D := [.str s]
/-- A slice of texts. -/
def strs (l : List ByteArray) : D := rows strD 1 l
section
variable {α : Type} {f : α → List D} {size : Nat}
theorem rows_total (l : List α) : (rows f size l).total = l.length + D.totals (l.flatMap f) := by simp [rows, D.total]
theorem take_next {l : List α} {k : Nat} {x : α} (hx : l[k]? = some x) : (l.take (k + 1)).flatMap f = (l.take k).flatMap f ++ f x := by
  rw [List.take_add_one, hx]; simp
theorem totals_take (l : List α) (k : Nat) : D.totals ((l.take k).flatMap f) ≤ D.totals (l.flatMap f) := by
  have h : l.flatMap f = (l.take k).flatMap f ++ (l.drop k).flatMap f := by rw [← List.flatMap_append, List.take_append_drop]
  rw [h, D.totals_append]; omega
theorem totals_mem {l : List α} {x : α} (h : x ∈ l) : D.totals (f x) ≤ D.totals (l.flatMap f) := by
  induction l with
  | nil => cases h
  | cons y r ih =>
    rw [List.flatMap_cons, D.totals_append]
    rcases List.mem_cons.1 h with rfl | h
    · omega
    · have := ih h; omega
theorem flat_length (hf : ∀ x, (f x).length = size) (l : List α) : (l.flatMap f).length = l.length * size := by
  induction l with
  | nil => simp
  | cons y r ih => rw [List.flatMap_cons, List.length_append, ih, hf, List.length_cons, Nat.succ_mul, Nat.add_comm]
/-- Two lists, element by element. -/
def pairs (q : α → α → Bool) : List α → List α → Bool
  | [], [] => true
  | x :: r, y :: s => q x y && pairs q r s
  | [], _ :: _ => false
  | _ :: _, [] => false
def PairsTo (q : α → α → Bool) (l m : List α) (k : Nat) : Prop := pairs q (l.take k) (m.take k) = true
section
variable {q : α → α → Bool} {l m : List α} {k : Nat}
theorem PairsTo.zero (q : α → α → Bool) (l m : List α) : PairsTo q l m 0 := by simp [PairsTo, pairs]
theorem pairs_len (h : l.length ≠ m.length) : pairs q l m = false := by
  induction l generalizing m with
  | nil => cases m with | nil => simp at h | cons => rfl
  | cons x r ih => cases m with | nil => rfl | cons y s => simp only [pairs, ih (by simpa using h), Bool.and_false]
theorem PairsTo.next {x y : α} (h : PairsTo q l m k) (hx : l[k]? = some x) (hy : m[k]? = some y) (hs : q x y = true) : PairsTo q l m (k + 1) := by
  unfold PairsTo at h ⊢
  induction k generalizing l m with
  | zero =>
    cases l with | nil => simp at hx | cons a r =>
    cases m with | nil => simp at hy | cons b s =>
    simp at hx hy
    subst hx hy
    simp [pairs, hs]
  | succ k ih =>
    cases l with | nil => simp at hx | cons a r =>
    cases m with | nil => simp at hy | cons b s =>
    simp only [List.take_succ_cons, pairs, Bool.and_eq_true] at h ⊢
    exact ⟨h.1, ih h.2 (by simpa using hx) (by simpa using hy)⟩
theorem pairs_bad {x y : α} (hx : l[k]? = some x) (hy : m[k]? = some y) (hs : q x y = false) : pairs q l m = false := by
  induction k generalizing l m with
  | zero =>
    cases l with | nil => simp at hx | cons a r =>
    cases m with | nil => simp at hy | cons b s =>
    simp at hx hy
    subst hx hy
    simp [pairs, hs]
  | succ k ih =>
    cases l with | nil => simp at hx | cons a r =>
    cases m with | nil => simp at hy | cons b s =>
    simp only [pairs, ih (by simpa using hx) (by simpa using hy), Bool.and_false]
theorem PairsTo.end_ (hlm : l.length = m.length) (h : PairsTo q l m l.length) : pairs q l m = true := by
  unfold PairsTo at h
  rwa [List.take_length, hlm, List.take_length] at h
theorem pairs_refl (hq : ∀ x ∈ l, q x x = true) : pairs q l l = true := by
  induction l with
  | nil => rfl
  | cons x r ih => simp [pairs, hq x (by simp), ih (fun y hy => hq y (by simp [hy]))]
end
theorem sames_flat (hf : ∀ x, (f x).length = size) {l m : List α} (h : l.length = m.length) : D.sames (l.flatMap f) (m.flatMap f) = pairs (fun x y => D.sames (f x) (f y)) l m := by
  induction l generalizing m with
  | nil => cases m with | nil => rfl | cons => simp at h
  | cons x r ih => cases m with | nil => simp at h | cons y s => rw [List.flatMap_cons, List.flatMap_cons, D.sames_append (by rw [hf, hf]), ih (by simpa using h)]; rfl
theorem same_rows (hf : ∀ x, (f x).length = size) (l m : List α) : D.same (rows f size l) (rows f size m) = pairs (fun x y => D.sames (f x) (f y)) l m := by
  by_cases h : l.length = m.length
  · simp only [rows, D.same, sames_flat hf h, h, BEq.rfl, Bool.true_and]
  · rw [pairs_len h]; simp [rows, D.same, h]
def sameS (s t : ByteArray) : Bool := s.toList == t.toList
theorem same_strs (l m : List ByteArray) : D.same (strs l) (strs m) = pairs sameS l m := by
  have e : (fun x y => D.sames (strD x) (strD y)) = sameS := by funext x y; simp [strD, D.sames, D.same, sameS]
  rw [strs, strs, same_rows (f := strD) (size := 1) (fun _ => rfl), e]
variable {w : World} {S : Nat → Prop}
theorem rows_form (hf : ∀ x, (f x).length = size) {l : List α} {v : Value} (h : D.At w S (rows f size l) v) : ∃ A cap, v = .slice A l.length cap ∧ l.length ≤ cap ∧ cap ≤ maxLen := (D.At.row hf h).1
theorem rows_bound {l : List α} {A : Option Addr} {n cap : Nat} (h : D.At w S (rows f size l) (.slice A n cap)) : n = l.length ∧ n ≤ cap ∧ cap ≤ maxLen := by
  unfold rows at h
  simp only [D.At] at h
  obtain ⟨A', cap', xs, hv, h1, h2, -⟩ := h
  injection hv with e1 e2 e3
  subst e1 e2 e3
  exact ⟨rfl, h1, h2⟩
theorem rows_at (hf : ∀ x, (f x).length = size) {l : List α} {A : Option Addr} {cap : Nat} (h : D.At w S (rows f size l) (.slice A l.length cap)) {i : Nat} {x : α} (hx : l[i]? = some x) :
    ∃ b off us, A = some ⟨b, off, none⟩ ∧ S b ∧ b < w.heap.size ∧ D.Ats w S (f x) us ∧ us.length = size ∧ ∀ j u, us[j]? = some u → w.cell? ⟨b, off + i * size + j, none⟩ = some u := by
  obtain ⟨b, off, cap', us, hv, h1⟩ := (D.At.row hf h).2 i x hx
  injection hv with hA _ _
  exact ⟨b, off, us, hA, h1⟩
theorem rows_at1 (hf : ∀ x, (f x).length = 1) {l : List α} {A : Option Addr} {cap : Nat} (h : D.At w S (rows f 1 l) (.slice A l.length cap)) {i : Nat} {x : α} (hx : l[i]? = some x) :
    ∃ b off u0, A = some ⟨b, off, none⟩ ∧ S b ∧ b < w.heap.size ∧ D.Ats w S (f x) [u0] ∧ w.cell? ⟨b, off + i, none⟩ = some u0 := by
  obtain ⟨b, off, us, hA, hS, hb, h1, h2, h3⟩ := rows_at hf h hx
  match us, h2 with
  | [u0], _ => exact ⟨b, off, u0, hA, hS, hb, h1, by simpa using h3 0 u0 rfl⟩
theorem rows_at3 (hf : ∀ x, (f x).length = 3) {l : List α} {A : Option Addr} {cap : Nat} (h : D.At w S (rows f 3 l) (.slice A l.length cap)) {i : Nat} {x : α} (hx : l[i]? = some x) :
    ∃ b off u0 u1 u2, A = some ⟨b, off, none⟩ ∧ S b ∧ b < w.heap.size ∧ D.Ats w S (f x) [u0, u1, u2] ∧ w.cell? ⟨b, off + i * 3, none⟩ = some u0 ∧ w.cell? ⟨b, off + i * 3 + 1, none⟩ = some u1 ∧ w.cell? ⟨b, off + i * 3 + 2, none⟩ = some u2 := by
  obtain ⟨b, off, us, hA, hS, hb, h1, h2, h3⟩ := rows_at hf h hx
  match us, h2 with
  | [u0, u1, u2], _ => exact ⟨b, off, u0, u1, u2, hA, hS, hb, h1, h3 0 u0 rfl, h3 1 u1 rfl, h3 2 u2 rfl⟩
theorem rows_at4 (hf : ∀ x, (f x).length = 4) {l : List α} {A : Option Addr} {cap : Nat} (h : D.At w S (rows f 4 l) (.slice A l.length cap)) {i : Nat} {x : α} (hx : l[i]? = some x) :
    ∃ b off u0 u1 u2 u3, A = some ⟨b, off, none⟩ ∧ S b ∧ b < w.heap.size ∧ D.Ats w S (f x) [u0, u1, u2, u3] ∧ w.cell? ⟨b, off + i * 4, none⟩ = some u0 ∧ w.cell? ⟨b, off + i * 4 + 1, none⟩ = some u1 ∧
      w.cell? ⟨b, off + i * 4 + 2, none⟩ = some u2 ∧ w.cell? ⟨b, off + i * 4 + 3, none⟩ = some u3 := by
  obtain ⟨b, off, us, hA, hS, hb, h1, h2, h3⟩ := rows_at hf h hx
  match us, h2 with
  | [u0, u1, u2, u3], _ => exact ⟨b, off, u0, u1, u2, u3, hA, hS, hb, h1, h3 0 u0 rfl, h3 1 u1 rfl, h3 2 u2 rfl, h3 3 u3 rfl⟩
theorem rows_at5 (hf : ∀ x, (f x).length = 5) {l : List α} {A : Option Addr} {cap : Nat} (h : D.At w S (rows f 5 l) (.slice A l.length cap)) {i : Nat} {x : α} (hx : l[i]? = some x) :
    ∃ b off u0 u1 u2 u3 u4, A = some ⟨b, off, none⟩ ∧ S b ∧ b < w.heap.size ∧ D.Ats w S (f x) [u0, u1, u2, u3, u4] ∧ w.cell? ⟨b, off + i * 5, none⟩ = some u0 ∧ w.cell? ⟨b, off + i * 5 + 1, none⟩ = some u1 ∧
      w.cell? ⟨b, off + i * 5 + 2, none⟩ = some u2 ∧ w.cell? ⟨b, off + i * 5 + 3, none⟩ = some u3 ∧ w.cell? ⟨b, off + i * 5 + 4, none⟩ = some u4 := by
  obtain ⟨b, off, us, hA, hS, hb, h1, h2, h3⟩ := rows_at hf h hx
  match us, h2 with
  | [u0, u1, u2, u3, u4], _ => exact ⟨b, off, u0, u1, u2, u3, u4, hA, hS, hb, h1, h3 0 u0 rfl, h3 1 u1 rfl, h3 2 u2 rfl, h3 3 u3 rfl, h3 4 u4 rfl⟩
theorem rows_at7 (hf : ∀ x, (f x).length = 7) {l : List α} {A : Option Addr} {cap : Nat} (h : D.At w S (rows f 7 l) (.slice A l.length cap)) {i : Nat} {x : α} (hx : l[i]? = some x) :
    ∃ b off u0 u1 u2 u3 u4 u5 u6, A = some ⟨b, off, none⟩ ∧ S b ∧ b < w.heap.size ∧ D.Ats w S (f x) [u0, u1, u2, u3, u4, u5, u6] ∧ w.cell? ⟨b, off + i * 7, none⟩ = some u0 ∧ w.cell? ⟨b, off + i * 7 + 1, none⟩ = some u1 ∧
      w.cell? ⟨b, off + i * 7 + 2, none⟩ = some u2 ∧ w.cell? ⟨b, off + i * 7 + 3, none⟩ = some u3 ∧ w.cell? ⟨b, off + i * 7 + 4, none⟩ = some u4 ∧ w.cell? ⟨b, off + i * 7 + 5, none⟩ = some u5 ∧ w.cell? ⟨b, off + i * 7 + 6, none⟩ = some u6 := by
  obtain ⟨b, off, us, hA, hS, hb, h1, h2, h3⟩ := rows_at hf h hx
  match us, h2 with
  | [u0, u1, u2, u3, u4, u5, u6], _ => exact ⟨b, off, u0, u1, u2, u3, u4, u5, u6, hA, hS, hb, h1, h3 0 u0 rfl, h3 1 u1 rfl, h3 2 u2 rfl, h3 3 u3 rfl, h3 4 u4 rfl, h3 5 u5 rfl, h3 6 u6 rfl⟩
theorem strD_length (s : ByteArray) : (strD s).length = 1 := rfl
theorem str_open {s : ByteArray} {u : Value} (h : D.Ats w S (strD s) [u]) : u = .string s ∧ s.size ≤ maxLen := by
  simp only [strD, D.Ats, D.At] at h
  obtain ⟨v, vs, hx, ⟨rfl, h1⟩, rfl⟩ := h
  simp at hx
  exact ⟨hx, h1⟩
theorem str_mk {s : ByteArray} (h : s.size ≤ maxLen) : D.Ats w S (strD s) [.string s] := .cons (by unfold D.At; exact ⟨rfl, h⟩) .nil
/-- So much is left, or -1. -/
def left (a : Int) (n : Nat) : Int := if (n : Int) ≤ a then a - n else -1
theorem left_add (a : Int) (m n : Nat) : left a (m + n) = if (m : Int) ≤ a then left (a - m) n else -1 := by
  unfold left
  by_cases h : (m : Int) ≤ a
  · rw [if_pos h]
    by_cases h2 : (n : Int) ≤ a - m
    · rw [if_pos h2, if_pos (by omega)]; omega
    · rw [if_neg h2, if_neg (by omega)]
  · rw [if_neg h, if_neg (by omega)]
theorem left_yes {a : Int} {n : Nat} (h : (n : Int) ≤ a) : left a n = a - n := if_pos h
theorem left_no {a : Int} {n : Nat} (h : ¬ (n : Int) ≤ a) : left a n = -1 := if_neg h
/-- A struct of these cells comes back, all new; or one cell. -/
def RetDs (ds : List D) (w : World) (e : Ending) (w' : World) : Prop := ∃ cs, e = .returned (.agg cs.toArray) ∧ D.Ats w' (fun b => w.heap.size ≤ b) ds cs ∧ Below w.heap.size w w'
def RetD (d : D) (w : World) (e : Ending) (w' : World) : Prop := ∃ v, e = .returned v ∧ D.At w' (fun b => w.heap.size ≤ b) d v ∧ Below w.heap.size w w'
variable {w' : World} {g : Nat} {t : TypeId} {cs : List Value}
theorem box3 {tA tB tC : TypeId} {cA cB cC : List Value} {w1 : World}
    (hb : Below (((w.alloc (.cells cA.toArray tA)).alloc (.cells cB.toArray tB)).alloc (.cells cC.toArray tC)).heap.size (((w.alloc (.cells cA.toArray tA)).alloc (.cells cB.toArray tB)).alloc (.cells cC.toArray tC)) w1) :
    Below w.heap.size w w1 ∧ Box w1 w.heap.size tA cA ∧ Box w1 (w.heap.size + 1) tB cB ∧ Box w1 (w.heap.size + 2) tC cC := by
  refine ⟨((((Below.refl _ _).alloc (Nat.le_refl _) _).alloc (by simp) _).alloc (by simp; omega) _).trans (hb.mono (by simp; omega)), (((Box.new w tA cA).alloc _).alloc _).call hb, ?_, ?_⟩
  · have := ((Box.new (w.alloc (.cells cA.toArray tA)) tB cB).alloc (.cells cC.toArray tC)).call hb
    simpa using this
  · have := (Box.new ((w.alloc (.cells cA.toArray tA)).alloc (.cells cB.toArray tB)) tC cC).call hb
    simpa using this
theorem Box.set (h : Box w g t cs) (o : Nat) (v : Value) : Box (w.setCell ⟨g, o, none⟩ v) g t (cs.set o v) := by
  unfold Box at h ⊢
  simp [World.setCell, Array.getElem?_modify, h]
theorem Box.set_ne (h : Box w g t cs) {p : Addr} (hp : g ≠ p.block) (v : Value) : Box (w.setCell p v) g t cs := (Below.heap_setCell w p v g hp).trans h
theorem D.Ats.str_cell {s : ByteArray} {r : List D} {xs : List Value} (h : D.Ats w S (.str s :: r) xs) : ∃ vs, xs = .string s :: vs ∧ s.size ≤ maxLen ∧ D.Ats w S r vs := by
  simp only [D.Ats, D.At] at h
  obtain ⟨v, vs, rfl, ⟨rfl, h1⟩, h2⟩ := h
  exact ⟨vs, rfl, h1, h2⟩
theorem D.Ats.int_cell {n : Int} {r : List D} {xs : List Value} (h : D.Ats w S (.int n :: r) xs) : ∃ vs, xs = .int .i64 n :: vs ∧ (-9223372036854775808 ≤ n ∧ n ≤ 9223372036854775807) ∧ D.Ats w S r vs := by
  simp only [D.Ats, D.At] at h
  obtain ⟨v, vs, rfl, ⟨rfl, h1⟩, h2⟩ := h
  exact ⟨vs, rfl, h1, h2⟩
theorem D.Ats.bool_cell {b : Bool} {r : List D} {xs : List Value} (h : D.Ats w S (.bool b :: r) xs) : ∃ vs, xs = .bool b :: vs ∧ D.Ats w S r vs := by
  simp only [D.Ats, D.At] at h
  obtain ⟨v, vs, rfl, rfl, h2⟩ := h
  exact ⟨vs, rfl, h2⟩
theorem D.Ats.rows_cell (hf : ∀ x, (f x).length = size) {l : List α} {r : List D} {xs : List Value} (h : D.Ats w S (rows f size l :: r) xs) : ∃ A cap vs, xs = .slice A l.length cap :: vs ∧ D.At w S (rows f size l) (.slice A l.length cap) ∧ D.Ats w S r vs := by
  simp only [D.Ats] at h
  obtain ⟨v, vs, rfl, h1, h2⟩ := h
  obtain ⟨A, cap, rfl, -, -⟩ := rows_form hf h1
  exact ⟨A, cap, vs, rfl, h1, h2⟩
theorem D.Ats.nil_cell {xs : List Value} (h : D.Ats w S [] xs) : xs = [] := by simpa only [D.Ats] using h
theorem D.At.mk_int {n : Int} (h : -9223372036854775808 ≤ n ∧ n ≤ 9223372036854775807) : D.At w S (.int n) (.int .i64 n) := by unfold D.At; exact ⟨rfl, h⟩
theorem D.At.mk_str {s : ByteArray} (h : s.size ≤ maxLen) : D.At w S (.str s) (.string s) := by unfold D.At; exact ⟨rfl, h⟩
theorem D.At.mk_bool {b : Bool} : D.At w S (.bool b) (.bool b) := by unfold D.At; rfl
end
end Go.Proofs.YtcpadaelgdmipaaGreatDoor
