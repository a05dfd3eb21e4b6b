/- Why one type cannot stand for another: plain definitions and laws. Why one type cannot stand for another: what the walks share. Labels and records: by the reference. -/
import Derived.Test.YtoioljkhinodaaaGreatDoorTyPlain
import Derived.Test.YtoioljkhinodaaaGreatDoorTyShapeP
import Derived.Test.YtoioljkhinodaaaGreatDoorSameTy
import Derived.Test.YtoioljkhinodaaaGreatDoorNumRange
import Derived.Test.YtoioljkhinodaaaGreatDoorDec
import Derived.Test.YtoioljkhinodaaaGreatDoorRow4
import Derived.Test.YtoioljkhinodaaaGreatDoorNums
import Derived.Test.YtoioljkhinodaaaGreatDoorData
import Derived.StillTailTactics
import Derived.BigQuiet
import Derived.Deep.RegionHeld3
import Derived.Deep.DeepCutAuto
namespace Go.Proofs.YtoioljkhinodaaaGreatDoor
open Go.RowKit

abbrev Rs := Option (Int × ByteArray)
def orR : Rs → Rs → Rs
  | some r, _ => some r
  | none, x => x
/-- The first reason of the first m. -/
def firstUp (f : Nat → Rs) : Nat → Rs
  | 0 => none
  | m + 1 => orR (firstUp f m) (f m)
theorem firstUp_next {f : Nat → Rs} {m : Nat} (h : firstUp f m = none) : firstUp f (m + 1) = f m := by
  show orR (firstUp f m) (f m) = f m
  rw [h]
  rfl
theorem firstUp_hit {f : Nat → Rs} {q m : Nat} {r : Int × ByteArray} (h : firstUp f q = some r) (hm : q ≤ m) : firstUp f m = some r := by
  induction m with
  | zero =>
    have e : q = 0 := by omega
    subst e
    exact h
  | succ m ih =>
    rcases Nat.lt_or_ge m q with h1 | h1
    · obtain rfl : q = m + 1 := by omega
      exact h
    · show orR (firstUp f m) (f m) = some r
      rw [ih h1]
      rfl
/-- Where a label stands. -/
def idxS (l : List ByteArray) (s : ByteArray) : Option Nat := l.findIdx? (fun x => x.toList == s.toList)
def idxI : Option Nat → Int
  | some k => (k : Int)
  | none => -1
def IdxTo (l : List ByteArray) (s : ByteArray) (k : Nat) : Prop := ∀ j x, j < k → l[j]? = some x → (x.toList == s.toList) = false
theorem IdxTo.zero (l : List ByteArray) (s : ByteArray) : IdxTo l s 0 := fun j x h => absurd h (by omega)
theorem IdxTo.next {l : List ByteArray} {s x : ByteArray} {k : Nat} (h : IdxTo l s k) (hx : l[k]? = some x) (hs : (x.toList == s.toList) = false) : IdxTo l s (k + 1) := by
  intro j y hj hy
  by_cases e : j = k
  · subst e
    rw [hx] at hy
    obtain rfl := Option.some.inj hy
    exact hs
  · exact h j y (by omega) hy
theorem IdxTo.hit {l : List ByteArray} {s x : ByteArray} {k : Nat} (h : IdxTo l s k) (hx : l[k]? = some x) (hs : (x.toList == s.toList) = true) : idxS l s = some k := by
  unfold idxS
  rw [List.findIdx?_eq_some_iff_getElem]
  obtain ⟨hk, e⟩ := List.getElem?_eq_some_iff.1 hx
  refine ⟨hk, by rw [e]; exact hs, fun j hj => ?_⟩
  rw [h j _ hj (List.getElem?_eq_getElem (by omega))]
  decide
theorem IdxTo.none {l : List ByteArray} {s : ByteArray} (h : IdxTo l s l.length) : idxS l s = none := by
  unfold idxS
  rw [List.findIdx?_eq_none_iff]
  intro x hx
  obtain ⟨j, hj⟩ := List.getElem?_of_mem hx
  exact h j x (List.getElem?_eq_some_iff.1 hj).1 hj
theorem idxS_lt {l : List ByteArray} {s : ByteArray} {k : Nat} (h : idxS l s = some k) : k < l.length := by
  unfold idxS at h
  rw [List.findIdx?_eq_some_iff_getElem] at h
  exact h.1
def kidR (f : Ty → Ty → Rs) (kids kids' : List Ty) (i j : Nat) : Rs :=
  match kids[i]?, kids'[j]? with
  | some x, some y => f x y
  | _, _ => none
theorem kidR_some {f : Ty → Ty → Rs} {kids kids' : List Ty} {i j : Nat} {x y : Ty} (hx : kids[i]? = some x) (hy : kids'[j]? = some y) : kidR f kids kids' i j = f x y := by
  unfold kidR
  rw [hx, hy]
theorem kidR_nil {f : Ty → Ty → Rs} {kids' : List Ty} {i j : Nat} : kidR f [] kids' i j = none := rfl
def dotT (t s : ByteArray) : ByteArray := t ++ ⟨#[46]⟩ ++ s
def numK (k : Int) : Bool := inR 3 k 9
theorem numK_range (k : Int) : (numRange k).2.2 = numK k := by
  unfold numRange numK inR
  by_cases h3 : k = 3
  · subst h3; decide
  by_cases h4 : k = 4
  · subst h4; decide
  by_cases h5 : k = 5
  · subst h5; decide
  by_cases h6 : k = 6
  · subst h6; decide
  by_cases h7 : k = 7
  · subst h7; decide
  by_cases h8 : k = 8
  · subst h8; decide
  by_cases h9 : k = 9
  · subst h9; decide
  rw [if_neg h3, if_neg h4, if_neg h5, if_neg h6, if_neg h7, if_neg h8, if_neg h9]
  symm
  simp only [decide_eq_false_iff_not]
  omega
def numIn (k k' : Int) : Bool := decide ((numRange k').1 ≤ (numRange k).1) && decide ((numRange k).2.1 ≤ (numRange k').2.1)
def recR (f : Ty → Ty → ByteArray → Rs) (l l' : List ByteArray) (kids kids' : List Ty) (t : ByteArray) (i : Nat) : Rs :=
  match l'[i]? with
  | none => none
  | some s => match idxS l s with
    | none => some (4, dotT t s)
    | some k => kidR (fun a b => f a b (dotT t s)) kids kids' k i
def varR (f : Ty → Ty → ByteArray → Rs) (l l' : List ByteArray) (kids kids' : List Ty) (t : ByteArray) (i : Nat) : Rs :=
  match l[i]? with
  | none => none
  | some s => match idxS l' s with
    | none => some (5, dotT t s)
    | some k => kidR (fun a b => f a b (dotT t s)) kids kids' i k
theorem recR_none {f : Ty → Ty → ByteArray → Rs} {l l' : List ByteArray} {kids kids' : List Ty} {t s : ByteArray} {i : Nat} (h : l'[i]? = some s) (h2 : idxS l s = none) : recR f l l' kids kids' t i = some (4, dotT t s) := by
  unfold recR; rw [h]; simp only [h2]
theorem recR_some {f : Ty → Ty → ByteArray → Rs} {l l' : List ByteArray} {kids kids' : List Ty} {t s : ByteArray} {i k : Nat} (h : l'[i]? = some s) (h2 : idxS l s = some k) : recR f l l' kids kids' t i = kidR (fun a b => f a b (dotT t s)) kids kids' k i := by
  unfold recR; rw [h]; simp only [h2]
theorem varR_none {f : Ty → Ty → ByteArray → Rs} {l l' : List ByteArray} {kids kids' : List Ty} {t s : ByteArray} {i : Nat} (h : l[i]? = some s) (h2 : idxS l' s = none) : varR f l l' kids kids' t i = some (5, dotT t s) := by
  unfold varR; rw [h]; simp only [h2]
theorem varR_some {f : Ty → Ty → ByteArray → Rs} {l l' : List ByteArray} {kids kids' : List Ty} {t s : ByteArray} {i k : Nat} (h : l[i]? = some s) (h2 : idxS l' s = some k) : varR f l l' kids kids' t i = kidR (fun a b => f a b (dotT t s)) kids kids' i k := by
  unfold varR; rw [h]; simp only [h2]
def tupR (f : Ty → Ty → ByteArray → Rs) (kids kids' : List Ty) (t : ByteArray) (i : Nat) : Rs := kidR (fun a b => f a b (dotT t (decT i))) kids kids' i i
def sameR (x y : Ty) (t : ByteArray) : Rs := if tyEq 100 x y = true then none else some (3, t)
/-- The reason of two types of one kind that is no number. -/
def bodyR (f : Ty → Ty → ByteArray → Rs) (k : Int) (n n' : ByteArray) (l l' : List ByteArray) (kids kids' : List Ty) (t : ByteArray) : Rs :=
  if k = 12 then kidR (fun a b => f a b (t ++ ⟨#[91, 93]⟩)) kids kids' 0 0
  else if k = 13 then kidR (fun a b => f a b (t ++ ⟨#[63]⟩)) kids kids' 0 0
  else if k = 14 then orR (kidR (fun a b => f a b (t ++ ⟨#[46, 111, 107]⟩)) kids kids' 0 0) (kidR (fun a b => f a b (t ++ ⟨#[46, 101, 114, 114]⟩)) kids kids' 1 1)
  else if k = 15 then (if kids.length = kids'.length then firstUp (tupR f kids kids' t) kids.length else some (3, t))
  else if k = 16 then firstUp (recR f l l' kids kids' t) l'.length
  else if k = 17 ∨ k = 18 ∨ k = 19 then firstUp (varR f l l' kids kids' t) l.length
  else if k = 20 ∨ k = 21 then (if (n.toList == n'.toList) = true then none else some (6, t))
  else if k = 22 ∨ k = 23 then kidR (fun a b => sameR a b t) kids kids' 0 0
  else none
/-- The first reason why x cannot stand for y. -/
def whyN : Nat → Ty → Ty → ByteArray → Rs
  | 0, _, _, _ => none
  | m + 1, .mk k n l kids, .mk k' n' l' kids', t =>
    if (numK k && numK k') = true then (if numIn k k' = true then none else some (2, t))
    else if k = k' then bodyR (whyN m) k n n' l l' kids kids' t else some (1, t)
theorem whyN_eq (m : Nat) (k : Int) (n : ByteArray) (l : List ByteArray) (kids : List Ty) (k' : Int) (n' : ByteArray) (l' : List ByteArray) (kids' : List Ty) (t : ByteArray) :
    whyN (m + 1) (.mk k n l kids) (.mk k' n' l' kids') t = if (numK k && numK k') = true then (if numIn k k' = true then none else some (2, t)) else if k = k' then bodyR (whyN m) k n n' l l' kids kids' t else some (1, t) := rfl
theorem body12 {f : Ty → Ty → ByteArray → Rs} {n n' : ByteArray} {l l' : List ByteArray} {kids kids' : List Ty} {t : ByteArray} : bodyR f 12 n n' l l' kids kids' t = kidR (fun a b => f a b (t ++ ⟨#[91, 93]⟩)) kids kids' 0 0 := by unfold bodyR; rw [if_pos (by decide)]
theorem body13 {f : Ty → Ty → ByteArray → Rs} {n n' : ByteArray} {l l' : List ByteArray} {kids kids' : List Ty} {t : ByteArray} : bodyR f 13 n n' l l' kids kids' t = kidR (fun a b => f a b (t ++ ⟨#[63]⟩)) kids kids' 0 0 := by unfold bodyR; rw [if_neg (by decide), if_pos (by decide)]
theorem body14 {f : Ty → Ty → ByteArray → Rs} {n n' : ByteArray} {l l' : List ByteArray} {kids kids' : List Ty} {t : ByteArray} : bodyR f 14 n n' l l' kids kids' t = orR (kidR (fun a b => f a b (t ++ ⟨#[46, 111, 107]⟩)) kids kids' 0 0) (kidR (fun a b => f a b (t ++ ⟨#[46, 101, 114, 114]⟩)) kids kids' 1 1) := by unfold bodyR; rw [if_neg (by decide), if_neg (by decide), if_pos (by decide)]
theorem body15 {f : Ty → Ty → ByteArray → Rs} {n n' : ByteArray} {l l' : List ByteArray} {kids kids' : List Ty} {t : ByteArray} : bodyR f 15 n n' l l' kids kids' t = (if kids.length = kids'.length then firstUp (tupR f kids kids' t) kids.length else some (3, t)) := by unfold bodyR; rw [if_neg (by decide), if_neg (by decide), if_neg (by decide), if_pos (by decide)]
theorem body16 {f : Ty → Ty → ByteArray → Rs} {n n' : ByteArray} {l l' : List ByteArray} {kids kids' : List Ty} {t : ByteArray} : bodyR f 16 n n' l l' kids kids' t = firstUp (recR f l l' kids kids' t) l'.length := by unfold bodyR; rw [if_neg (by decide), if_neg (by decide), if_neg (by decide), if_neg (by decide), if_pos (by decide)]
theorem body17 {f : Ty → Ty → ByteArray → Rs} {n n' : ByteArray} {l l' : List ByteArray} {kids kids' : List Ty} {t : ByteArray} {k : Int} (h : k = 17 ∨ k = 18 ∨ k = 19) : bodyR f k n n' l l' kids kids' t = firstUp (varR f l l' kids kids' t) l.length := by unfold bodyR; rw [if_neg (by omega), if_neg (by omega), if_neg (by omega), if_neg (by omega), if_neg (by omega), if_pos (by omega)]
theorem body20 {f : Ty → Ty → ByteArray → Rs} {n n' : ByteArray} {l l' : List ByteArray} {kids kids' : List Ty} {t : ByteArray} {k : Int} (h : k = 20 ∨ k = 21) : bodyR f k n n' l l' kids kids' t = (if (n.toList == n'.toList) = true then none else some (6, t)) := by unfold bodyR; rw [if_neg (by omega), if_neg (by omega), if_neg (by omega), if_neg (by omega), if_neg (by omega), if_neg (by omega), if_pos (by omega)]
theorem body22 {f : Ty → Ty → ByteArray → Rs} {n n' : ByteArray} {l l' : List ByteArray} {kids kids' : List Ty} {t : ByteArray} {k : Int} (h : k = 22 ∨ k = 23) : bodyR f k n n' l l' kids kids' t = kidR (fun a b => sameR a b t) kids kids' 0 0 := by unfold bodyR; rw [if_neg (by omega), if_neg (by omega), if_neg (by omega), if_neg (by omega), if_neg (by omega), if_neg (by omega), if_neg (by omega), if_pos (by omega)]
theorem body0 {f : Ty → Ty → ByteArray → Rs} {n n' : ByteArray} {l l' : List ByteArray} {kids kids' : List Ty} {t : ByteArray} {k : Int} (h : k < 12 ∨ 23 < k) : bodyR f k n n' l l' kids kids' t = none := by unfold bodyR; rw [if_neg (by omega), if_neg (by omega), if_neg (by omega), if_neg (by omega), if_neg (by omega), if_neg (by omega), if_neg (by omega), if_neg (by omega)]
theorem why_kind {m : Nat} {k : Int} {n n' : ByteArray} {l l' : List ByteArray} {kids kids' : List Ty} {t : ByteArray} (hk : numK k = false) :
    whyN (m + 1) (.mk k n l kids) (.mk k n' l' kids') t = bodyR (whyN m) k n n' l l' kids kids' t := by rw [whyN_eq, if_neg (by rw [hk]; decide), if_pos rfl]
theorem numK_no {k : Int} (h : k < 3 ∨ 9 < k) : numK k = false := by
  unfold numK inR
  simp only [decide_eq_false_iff_not]
  omega
def rsK : Rs → Int
  | some (k, _) => k
  | none => 0
def rsT : Rs → ByteArray
  | some (_, t) => t
  | none => ⟨#[]⟩
def rsO : Rs → Bool
  | some _ => true
  | none => false
def retR (r : Rs) : Value := .tuple #[.agg #[.int .i64 (rsK r), .string (rsT r)], .bool (rsO r)]
theorem retR_eq (r : Rs) : retR r = .tuple #[.agg #[.int .i64 (rsK r), .string (rsT r)], .bool (rsO r)] := rfl
theorem rsO_no {r : Rs} (h : rsO r = false) : r = none := by cases r with | none => rfl | some _ => cases h
/-- What a valid part has. -/
structure Fit (k : Int) (n : ByteArray) (l : List ByteArray) (kids : List Ty) : Prop where
  one : k = 12 ∨ k = 13 ∨ k = 22 ∨ k = 23 → kids.length = 1
  two : k = 14 → kids.length = 2
  tup : k = 15 → kids.length ≤ 6
  recs : k = 16 ∨ k = 17 → kids.length = l.length
  none : k = 18 ∨ k = 19 → kids = []
  lab : ∀ s ∈ l, s.size ≤ 12
  many : l.length ≤ 16
theorem Fit.of {k : Int} {n : ByteArray} {l : List ByteArray} {kids : List Ty} (h : Ty.all shape (.mk k n l kids) = true) : Fit k n l kids ∧ ∀ x ∈ kids, Ty.all shape x = true := by
  rw [Ty.all_mk, Bool.and_eq_true, List.all_eq_true] at h
  refine ⟨?_, h.2⟩
  have h1 := h.1
  rw [shape_mk, Bool.and_eq_true] at h1
  obtain ⟨hh, hk⟩ := h1
  unfold headOk at hh
  simp only [Bool.and_eq_true] at hh
  obtain ⟨-, -, h3, h4⟩ := hh
  have hlab : l = [] ∨ labelsOk l = true := by
    cases hl : isLabelled k
    · rw [hl] at h3
      left
      have h5 : decide (0 < l.length) = false := by simpa using h3
      exact List.length_eq_zero_iff.1 (by simpa using h5)
    · rw [hl] at h4
      right
      simpa using h4
  have hall : (∀ s ∈ l, s.size ≤ 12) ∧ l.length ≤ 16 := by
    rcases hlab with rfl | h5
    · exact ⟨fun s hs => (by cases hs), by decide⟩
    · unfold labelsOk at h5
      simp only [Bool.and_eq_true, decide_eq_true_eq, List.all_eq_true] at h5
      refine ⟨fun s hs => ?_, h5.1.2⟩
      have h6 := h5.2.1 s hs
      unfold nameOk at h6
      simp only [Bool.and_eq_true, decide_eq_true_eq] at h6
      exact h6.1.2.1
  refine ⟨fun hc => ?_, fun hc => ?_, fun hc => ?_, fun hc => ?_, fun hc => ?_, hall.1, hall.2⟩
  · rcases hc with hc | hc | hc | hc
    · rw [kf1 (.inl hc)] at hk; simp at hk; exact hk.1
    · rw [kf1 (.inr hc)] at hk; simp at hk; exact hk.1
    · rw [kf2 (.inl hc)] at hk; simp at hk; exact hk.1
    · rw [kf2 (.inr hc)] at hk; simp at hk; exact hk.1
  · rw [kf3 hc] at hk; simpa using hk
  · rw [kf4 hc] at hk; simp at hk; exact hk.1.2
  · rcases hc with hc | hc
    · rw [kf5 hc] at hk; simp at hk; exact hk.1
    · rw [kf6 hc] at hk; simpa using hk
  · rw [kf7 (by omega)] at hk
    simp at hk
    exact List.length_eq_zero_iff.1 (by simpa using hk.2)
theorem deep_kid {k : Int} {n : ByteArray} {l : List ByteArray} {kids : List Ty} {x : Ty} {m : Nat} (h : Ty.deep (.mk k n l kids) ≤ m + 1) (hx : x ∈ kids) : x.deep ≤ m := by
  rw [Ty.deep_mk] at h
  have := Ty.deep_mem hx
  omega
end Go.Proofs.YtoioljkhinodaaaGreatDoor
namespace Go.Proofs.YtoioljkhinodaaaGreatDoor
open Go.RowKit

/-- A function that gives the reason. -/
def WhyAt (F : FuncId) (C : World → Prop) (m : Nat) : Prop := ∀ (x y : Ty) (t : ByteArray) (cs cs' : List Value) (w : World), x.deep ≤ m → Ty.all shape x = true → Ty.all shape y = true → t.size + 20 * m ≤ 1000000 → C w →
  D.Ats w anyB x.ds cs → D.Ats w anyB y.ds cs' → Calls Tryz.prog F #[.agg cs.toArray, .agg cs'.toArray, .string t] w fun e w' => e = .returned (retR (whyN m x y t)) ∧ Below w.heap.size w w'
theorem two_of {α : Type} {l : List α} (h : l.length = 2) : ∃ a b, l = [a, b] := by
  match l, h with
  | [a, b], _ => exact ⟨a, b, rfl⟩
/-- The three blocks of such a function. -/
theorem blocks3 (w : World) (tA tB tC : TypeId) (cA cB cC : List Value) : ∃ w0, w0 = ((w.alloc (.cells cA.toArray tA)).alloc (.cells cB.toArray tB)).alloc (.cells cC.toArray tC) ∧ Below w.heap.size w w0 ∧ Box w0 w.heap.size tA cA ∧ Box w0 (w.heap.size + 1) tB cB ∧ Box w0 (w.heap.size + 2) tC cC := by
  refine ⟨_, rfl, ?_⟩
  obtain ⟨h1, h2, h3, h4⟩ := box3 (cA := cA) (cB := cB) (cC := cC) (Below.refl _ (((w.alloc (.cells cA.toArray tA)).alloc (.cells cB.toArray tB)).alloc (.cells cC.toArray tC)))
  exact ⟨h1, h2, h3, h4⟩
theorem l08Number_s (k : Int) (w : World) : Calls Tryz.prog 66 #[.int .i64 k] w fun e w' => e = .returned (.bool (numK k)) ∧ w = w' := by
  go_enter Tryz.func66, Tryz.ntmps66
  go_wp2_with (go_at_call 101; refine (l00In_any _ _ _ _).mono ?_; rintro e w1 ⟨rfl, rfl⟩)
  go_ret
  exact ⟨rfl, rfl⟩
theorem l08No_s (k : Int) (t : ByteArray) (w : World) : Calls Tryz.prog 68 #[.int .i64 k, .string t] w fun e w' => e = .returned (.tuple #[.agg #[.int .i64 k, .string t], .bool true]) ∧ Below w.heap.size w w' := by
  go_enter Tryz.func68, Tryz.ntmps68
  go_wp2
  refine bodyPost_ret (v := .tuple #[.agg #[.int .i64 k, .string t], .bool true]) (by simp [results, Tryz.results68, go_sem]) rfl ⟨rfl, ?_⟩
  repeat (first | exact Below.refl _ _ | refine Below.setCell ?_ (by simp <;> omega) _ | refine Below.alloc ?_ (by first | omega | (simp <;> omega)) _)
end Go.Proofs.YtoioljkhinodaaaGreatDoor
namespace Go.Proofs.YtoioljkhinodaaaGreatDoor
open Go.RowKit Go.Shelf

set_option maxHeartbeats 4000000 in
set_option maxRecDepth 20000 in
theorem l08Label_s (l : List ByteArray) (s : ByteArray) (A : Option Addr) (cap : Nat) (w : World) (hv : D.At w anyB (strs l) (.slice A l.length cap)) :
    Calls Tryz.prog 72 #[.slice A l.length cap, .string s] w fun e w' => e = .returned (.int .i64 (idxI (idxS l s))) ∧ w = w' := by
  obtain ⟨-, hn, hc⟩ := rows_bound hv
  unfold maxLen at hc
  have HV := Lib.hid hv
  clear hv
  go_enter Tryz.func72, Tryz.ntmps72
  go_wp2
  go_loopw [5] (fun i wr => ∃ k : Nat, k ≤ l.length ∧ i = .int .i64 k ∧ IdxTo l s k ∧ w = wr) (fun i _ => l.length - (intOf i).toNat)
  case atStart => exact ⟨0, Nat.zero_le _, rfl, IdxTo.zero _ _, rfl⟩
  case round =>
    obtain ⟨k, hk, rfl, hst, rfl⟩ := hrel
    have HST := Lib.hid hst
    clear hst
    by_cases hlt : k < l.length
    · obtain ⟨x, hx⟩ : ∃ x, l[k]? = some x := ⟨l[k], List.getElem?_eq_getElem hlt⟩
      have hk0 : (0 : Int) ≤ (k : Int) := by omega
      have hk1 : (k : Int) < (l.length : Int) := by omega
      obtain ⟨b, off, u0, rfl, -, hbl, hat, c0⟩ := rows_at1 strD_length HV.out hx
      obtain ⟨rfl, -⟩ := str_open hat
      have HN := Lib.hid hx
      clear hx hat
      cases hs : (x.toList == s.toList)
      · have HB := Lib.hid (HST.out.next HN.out hs)
        go_wp2
        go_roundw
        case rel => exact ⟨k + 1, by omega, by go_num, HB.out, by first | rfl | trivial⟩
        case measure => simp [intOf]; omega
      · have HB := Lib.hid (HST.out.hit HN.out hs)
        go_wp2
        go_ret
        exact ⟨ret_eq (by rw [HB.out]; rfl), rfl⟩
    · obtain rfl : k = l.length := by omega
      have HB := Lib.hid HST.out.none
      go_wp2
      go_ret
      exact ⟨ret_eq (by rw [HB.out]; rfl), rfl⟩
theorem recEnd {w0 w5 : World} {g : Nat} {t : TypeId} {lo hi : Value} (G : Below w0.heap.size w0 w5) (bG : Box w5 g t [.int .i64 0, .string ⟨#[]⟩]) (hg : w0.heap.size ≤ g) :
    Below w0.heap.size w0 ((w5.setCell ⟨g, 0, none⟩ lo).setCell ⟨g, 1, none⟩ hi) ∧ w0.heap.size ≤ g ∧ g < ((w5.setCell ⟨g, 0, none⟩ lo).setCell ⟨g, 1, none⟩ hi).heap.size ∧
      ((w5.setCell ⟨g, 0, none⟩ lo).setCell ⟨g, 1, none⟩ hi).cell? ⟨g, 0, none⟩ = some lo ∧ ((w5.setCell ⟨g, 0, none⟩ lo).setCell ⟨g, 1, none⟩ hi).cell? ⟨g, 1, none⟩ = some hi :=
  ⟨(G.setCell hg _).setCell hg _, hg, ((bG.set 0 lo).set 1 hi).lt, ((bG.set 0 lo).set 1 hi).cell 0, ((bG.set 0 lo).set 1 hi).cell 1⟩
theorem recEnd2 {w0 w5 : World} {t : TypeId} {lo hi : Value} (G : Below w0.heap.size w0 w5) :
    Below w0.heap.size w0 (w5.alloc (.cells #[lo, hi] t)) ∧ w0.heap.size ≤ w5.heap.size ∧ w5.heap.size < (w5.alloc (.cells #[lo, hi] t)).heap.size ∧
      (w5.alloc (.cells #[lo, hi] t)).cell? ⟨w5.heap.size, 0, none⟩ = some lo ∧ (w5.alloc (.cells #[lo, hi] t)).cell? ⟨w5.heap.size, 1, none⟩ = some hi :=
  ⟨G.alloc G.size _, G.size, by simp, (Box.new w5 t [lo, hi]).cell 0, (Box.new w5 t [lo, hi]).cell 1⟩
end Go.Proofs.YtoioljkhinodaaaGreatDoor
