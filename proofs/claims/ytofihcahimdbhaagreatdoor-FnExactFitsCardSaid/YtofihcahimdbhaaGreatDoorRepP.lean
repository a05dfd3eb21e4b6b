/- A row of one type, so many times over; copy of elements of four cells. No program in sight. -/
import Derived.Test.YtofihcahimdbhaaGreatDoorCore
import Derived.Test.YtofihcahimdbhaaGreatDoorTyM
import Derived.Laws.CopyRow
namespace Go.Proofs.YtofihcahimdbhaaGreatDoor
open Go.RowKit

/-- Copy between rows whose elements have any number of cells: what lay in the source goes over. -/
theorem run_copy_any {P : Program} (w : World) (dT sT ty elem : TypeId) {i : TypeInfo} (g o dLen dCap : Nat) (a : Addr) (sLen sCap : Nat) (cur : Array Value) (t : TypeId) (cs : List Value)
    (hu : P.underlying dT = some (.slice elem)) (hi : P.info? elem = some i) (hg : w.heap[g]? = some (.cells cur t (0, 0))) (hn : cs.length = Nat.min sLen dLen * i.size)
    (hsrc : ∀ j v, cs[j]? = some v → w.cell? (a.add j) = some v) (hfit : o + cs.length ≤ cur.size) (h1 : ∀ v ∈ cs, v.oneCell' = true) :
    (Builtin.copy_ #[dT, sT] ty #[.slice (some ⟨g, o, none⟩) dLen dCap, .slice (some a) sLen sCap]).run P w =
      .ok (goInt (Nat.min sLen dLen)) (w.setRow g (cur.toList.take o ++ cs ++ cur.toList.drop (o + cs.length)).toArray) := by
  have hl := run_loadCells_list (P := P) w a cs hsrc
  have hst := run_storeCells_at P g o t cs 0 cur w hg (by simpa using hfit) h1
  simp [Builtin.copy_, run_underlying hu, Builtin.lenOf, Builtin.firstCells, sizeOf, typeInfo, hi, ← hn, hl, hst]
theorem copy_none_any {P : Program} (w : World) (dT sT ty elem : TypeId) {i : TypeInfo} (d a : Option Addr) (dLen dCap sLen sCap : Nat) (hu : P.underlying dT = some (.slice elem)) (hi : P.info? elem = some i) (hn : Nat.min sLen dLen = 0) :
    (Builtin.copy_ #[dT, sT] ty #[.slice d dLen dCap, .slice a sLen sCap]).run P w = .ok (goInt 0) w := by
  have hl : ∀ (x : Addr), (loadCells x 0).run P w = .ok #[] w := fun x => by simpa using run_loadCells_list (P := P) w x [] (by simp)
  cases d <;> cases a <;> simp [Builtin.copy_, run_underlying hu, Builtin.lenOf, Builtin.firstCells, sizeOf, typeInfo, hi, hn, storeCells, hl]
/-- The same cells, n times over. -/
def timesL (xs : List Value) (n : Nat) : List Value := (List.replicate n xs).flatten
theorem timesL_length (xs : List Value) (n : Nat) : (timesL xs n).length = n * xs.length := by
  unfold timesL; simp
theorem timesL_add (xs : List Value) (n m : Nat) : timesL xs (n + m) = timesL xs n ++ timesL xs m := by
  unfold timesL
  rw [← List.replicate_append_replicate, List.flatten_append]
theorem timesL_mem {xs : List Value} {n : Nat} {v : Value} (h : v ∈ timesL xs n) : v ∈ xs := by
  unfold timesL at h
  obtain ⟨l, hl, hv⟩ := List.mem_flatten.1 h
  rw [(List.mem_replicate.1 hl).2] at hv
  exact hv
theorem timesL_one (xs : List Value) : timesL xs 1 = xs := by simp [timesL]
theorem timesL_zero (xs : List Value) : timesL xs 0 = [] := rfl
/-- Row g, made for c elements, holds the same cells n times over so far. -/
def Times (w0 w : World) (g : Nat) (t : TypeId) (xs : List Value) (c n : Nat) : Prop :=
  ∃ cur : Array Value, w.heap[g]? = some (.cells cur t (0, 0)) ∧ cur.size = c * xs.length ∧ cur.toList.take (n * xs.length) = timesL xs n ∧ Below w0.heap.size w0 w ∧ w.heap.size = w0.heap.size + 1 ∧ g = w0.heap.size ∧ n ≤ c
theorem Times.start (w0 : World) (cur : Array Value) (t : TypeId) (xs : List Value) (c : Nat) (h : cur.size = c * xs.length) : Times w0 (w0.alloc (.cells cur t)) w0.heap.size t xs c 0 :=
  ⟨cur, heap_alloc_new w0 _, h, by simp [timesL], (Below.refl _ _).alloc (Nat.le_refl _) _, by simp, rfl, Nat.zero_le _⟩
theorem below_setRow {B : Nat} {w0 w : World} {g : Nat} (h : Below B w0 w) (hg : B ≤ g) (cs : Array Value) : Below B w0 (w.setRow g cs) := by
  refine ⟨h.os, h.tape, h.output, by rw [setRow_size]; exact h.size, fun k hk => ?_⟩
  have : (w.setRow g cs).heap[k]? = w.heap[k]? := by
    have hne : g ≠ k := by omega
    simp [World.setRow, Array.getElem?_modify, hne]
  rw [this]
  exact h.block k hk
/-- m more of them, laid behind. -/
theorem Times.more {w0 w : World} {g : Nat} {t : TypeId} {xs : List Value} {c n : Nat} (h : Times w0 w g t xs c n) (m : Nat) (hm : n + m ≤ c) (o : Nat) (ho : o = n * xs.length) :
    ∃ cur : Array Value, w.heap[g]? = some (.cells cur t (0, 0)) ∧ o + (timesL xs m).length ≤ cur.size ∧
      Times w0 (w.setRow g (cur.toList.take o ++ timesL xs m ++ cur.toList.drop (o + (timesL xs m).length)).toArray) g t xs c (n + m) := by
  subst ho
  obtain ⟨cur, hg, hs, ht, hb, hz, rfl, hn⟩ := h
  have hle : n * xs.length + m * xs.length ≤ c * xs.length := by rw [← Nat.add_mul]; exact Nat.mul_le_mul_right _ hm
  have hf : n * xs.length + (timesL xs m).length ≤ cur.size := by rw [timesL_length, hs]; exact hle
  refine ⟨cur, hg, hf, _, setRow_heap w _ cur _ t _ hg, ?_, ?_, below_setRow hb (Nat.le_refl _) _, by rw [setRow_size]; exact hz, rfl, hm⟩
  · simp only [List.size_toArray, List.length_append, List.length_take, List.length_drop, Array.length_toList]
    have h1 : n * xs.length ≤ cur.size := by omega
    rw [Nat.min_eq_left h1, ← hs]
    omega
  · have hl : (cur.toList.take (n * xs.length) ++ timesL xs m).length = (n + m) * xs.length := by
      rw [List.length_append, List.length_take, timesL_length, show cur.toList.length = cur.size from Array.length_toList, Nat.min_eq_left (by omega), Nat.add_mul]
    rw [List.take_append_of_le_length (by rw [hl]; exact Nat.le_refl _), ← hl, List.take_length, ht, timesL_add]
theorem Times.drew {w0 w : World} {g : Nat} {t : TypeId} {xs : List Value} {c n : Nat} (h : Times w0 w g t xs c n) : Times w0 w.drew g t xs c n := by
  obtain ⟨cur, hg, hs, ht, hb, hz, hg', hn⟩ := h
  exact ⟨cur, hg, hs, ht, hb.drew, hz, hg', hn⟩
/-- Such a copy as one step of a region that draws its order. -/
theorem step_copy {P : Program} {ops : Array Oper} {o : Oper} {a : Act} {K : Act → World → Prop} {Q : Exit → Act → World → Prop} {E : Prop} {w w' : World} {t : TypeId} {d v : Value} {m : Nat} (s x : Operand)
    (hr : ∀ ty, (Builtin.copy_ #[t, t] ty #[d, v]).run P w = .ok (goInt m) w') (h : K (a.put o.dst (goInt m)) w')
    (hgd : o.guard = none := by exact rfl) (ho : o.op = .call { callee := .builtin .copy, args := #[s, x], argTypes := #[t, t] } := by exact rfl)
    (hs : a.eval s = d := by simp [Act.eval, Act.put]) (hx : a.eval x = v := by simp [Act.eval, Act.put]) :
    if Region.wanted o (yielded ops a.tmps) = true then Oper.wp P o a w K Q else E := by
  have hw : Region.wanted o (yielded ops a.tmps) = true := by simp [Region.wanted, hgd]
  rw [if_pos hw]
  unfold Oper.wp execOp
  simp only [ho, resolve, invoke, builtin, Sem.run_bind, Sem.run_pure, Result.andThen_ok, List.map_toArray, List.map_cons, List.map_nil, hs, hx, hr]
  exact h
theorem Times.cells {w0 w : World} {g : Nat} {t : TypeId} {xs : List Value} {c n : Nat} (h : Times w0 w g t xs c n) {m j : Nat} {v : Value} (hm : m ≤ n) (hv : (timesL xs m)[j]? = some v) : w.cell? ⟨g, j, none⟩ = some v := by
  obtain ⟨cur, hg, hs, ht, -⟩ := h
  have hj : j < m * xs.length := by rw [← timesL_length]; exact (List.getElem?_eq_some_iff.1 hv).1
  have hjn : j < n * xs.length := Nat.lt_of_lt_of_le hj (Nat.mul_le_mul_right _ hm)
  rw [cell_of_row w g j cur t (0, 0) hg, ← Array.getElem?_toList]
  have h1 : (timesL xs n)[j]? = some v := by
    rw [show n = m + (n - m) by omega, timesL_add, List.getElem?_append_left (by rw [timesL_length]; exact hj)]
    exact hv
  rw [← ht, List.getElem?_take, if_pos hjn] at h1
  exact h1
theorem ats_times {w : World} {S : Nat → Prop} {x : Ty} {xs : List Value} (h : D.Ats w S x.ds xs) (n : Nat) : D.Ats w S ((List.replicate n x).flatMap Ty.ds) (timesL xs n) := by
  induction n with
  | zero => exact D.Ats.nil
  | succ n ih =>
    rw [List.replicate_succ, List.flatMap_cons]
    have : timesL xs (n + 1) = xs ++ timesL xs n := by simp [timesL, List.replicate_succ]
    rw [this]
    exact h.append ih
theorem Times.done {w0 w : World} {S : Nat → Prop} {g : Nat} {t : TypeId} {x : Ty} {xs : List Value} {c : Nat} (h : Times w0 w g t xs c c) (hS : S g) (hx : D.Ats w S x.ds xs) (hc : c ≤ maxLen) : D.At w S (rows Ty.ds 4 (List.replicate c x)) (.slice (some ⟨g, 0, none⟩) c c) := by
  have hl : xs.length = 4 := by rw [hx.length, Ty.len]
  have h' := h
  obtain ⟨cur, hg, hs, ht, -⟩ := h
  unfold rows
  simp only [D.At, List.length_replicate]
  refine ⟨_, c, timesL xs c, rfl, Nat.le_refl _, hc, by rw [timesL_length, hl], fun _ => ⟨g, 0, rfl, hS, (Array.getElem?_eq_some_iff.1 hg).1, fun j u hu => ?_⟩, ats_times hx c⟩
  rw [Nat.zero_add]
  exact h'.cells (Nat.le_refl _) hu
theorem at_nil {α : Type} {f : α → List D} {size : Nat} {w : World} {S : Nat → Prop} {A : Option Addr} {c : Nat} (h : c ≤ maxLen) : D.At w S (rows f size ([] : List α)) (.slice A 0 c) := by
  unfold rows
  simp only [D.At]
  exact ⟨A, c, [], rfl, Nat.zero_le _, h, by simp, fun h => by simp at h, D.Ats.nil⟩
theorem at_one {y : Ty} {w : World} {S : Nat → Prop} {G : Nat} {t : TypeId} {cs : List Value} (hG : S G) (hb : Box w G t cs) (h : D.Ats w S y.ds cs) : D.At w S (rows Ty.ds 4 [y]) (.slice (some ⟨G, 0, none⟩) 1 1) := by
  have hl := h.length
  rw [Ty.len] at hl
  unfold rows
  simp only [D.At]
  refine ⟨_, 1, cs, rfl, Nat.le_refl _, by unfold maxLen; omega, by rw [hl]; rfl, fun _ => ⟨G, 0, rfl, hG, hb.lt, fun j u hu => ?_⟩, ?_⟩
  · rw [Nat.zero_add, hb.cell]; simpa using hu
  · simpa using h
end Go.Proofs.YtofihcahimdbhaaGreatDoor
