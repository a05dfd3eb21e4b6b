/- Whether a value fits a type. No program in sight. -/
import Derived.Test.YtofihcahimdbhaaGreatDoorTyShapeP
import Derived.Test.YtofihcahimdbhaaGreatDoorVaM
import Derived.Test.YtofihcahimdbhaaGreatDoorNumRange
import Derived.Test.YtofihcahimdbhaaGreatDoorUtfT
namespace Go.Proofs.YtofihcahimdbhaaGreatDoor
open Go.RowKit

/-- The number fits. -/
def numFits (k : Int) (nl : Nat) (m : Int) : Bool :=
  if k = 2 ∨ k = 13 ∨ k = 14 then inR 0 m 1
  else if k = 10 then charOk m
  else if k = 17 ∨ k = 18 then inR 0 m ((nl : Int) - 1)
  else if k = 19 then inR 0 m ((2 ^ nl : Nat) - 1 : Int)
  else if k = 20 ∨ k = 21 ∨ k = 22 ∨ k = 23 then inR 0 m 2147483647
  else inR (numRange k).1 m (numRange k).2.1
/-- The type of a case, or none. -/
def caseT (kids : List Ty) (j : Int) : Option (List Ty) := if 0 ≤ j ∧ j < kids.length then (match kids[j.toNat]? with | some x => if isU x = true then some [] else some [x] | none => none) else none
/-- The types of the kids. -/
def kts (k m : Int) (n : Nat) (kids : List Ty) : Option (List Ty) :=
  if k = 12 then some (List.replicate (min n 8) kids).flatten
  else if k = 15 ∨ k = 16 then some kids
  else if k = 13 then (if m = 0 then some [] else caseT kids (m - 1))
  else if k = 14 ∨ k = 17 then caseT kids m
  else some []
mutual
def fitV : Va → Ty → Bool
  | .mk k m s vs, t => (k == t.kind) && (numFits t.kind t.labels.length m && (((t.kind == 11) || s.toList.isEmpty) && (textOk s && (match kts t.kind m vs.length t.kids with | none => false | some ts => (ts.length == vs.length) && fitVs vs ts))))
def fitVs : List Va → List Ty → Bool
  | [], _ => true
  | _ :: _, [] => true
  | v :: r, ts => (match ts with | [] => true | t :: q => fitV v t && fitVs r q)
end
theorem fitVs_cons (v : Va) (r : List Va) (t : Ty) (q : List Ty) : fitVs (v :: r) (t :: q) = (fitV v t && fitVs r q) := by simp [fitVs]
theorem fitVs_nil (ts : List Ty) : fitVs [] ts = true := by simp [fitVs]
theorem fitV_mk (k m : Int) (s : ByteArray) (vs : List Va) (t : Ty) : fitV (.mk k m s vs) t = ((k == t.kind) && (numFits t.kind t.labels.length m && (((t.kind == 11) || s.toList.isEmpty) && (textOk s && (match kts t.kind m vs.length t.kids with | none => false | some ts => (ts.length == vs.length) && fitVs vs ts))))) := by
  rw [fitV]
/-- So far they fit. -/
def FitTo (vs : List Va) (ts : List Ty) (k : Nat) : Prop := fitVs vs ts = fitVs (vs.drop k) (ts.drop k)
theorem FitTo.zero (vs : List Va) (ts : List Ty) : FitTo vs ts 0 := rfl
theorem fitVs_drop {vs : List Va} {ts : List Ty} {k : Nat} {v : Va} {t : Ty} (hv : vs[k]? = some v) (ht : ts[k]? = some t) : fitVs (vs.drop k) (ts.drop k) = (fitV v t && fitVs (vs.drop (k + 1)) (ts.drop (k + 1))) := by
  rw [List.drop_eq_getElem?_toList_append, List.drop_eq_getElem?_toList_append (l := ts), hv, ht]
  exact fitVs_cons _ _ _ _
theorem FitTo.next {vs : List Va} {ts : List Ty} {k : Nat} {v : Va} {t : Ty} (h : FitTo vs ts k) (hv : vs[k]? = some v) (ht : ts[k]? = some t) (hf : fitV v t = true) : FitTo vs ts (k + 1) := by
  unfold FitTo at h ⊢
  rw [h, fitVs_drop hv ht, hf, Bool.true_and]
theorem FitTo.bad {vs : List Va} {ts : List Ty} {k : Nat} {v : Va} {t : Ty} (h : FitTo vs ts k) (hv : vs[k]? = some v) (ht : ts[k]? = some t) (hf : fitV v t = false) : fitVs vs ts = false := by
  unfold FitTo at h
  rw [h, fitVs_drop hv ht, hf, Bool.false_and]
theorem FitTo.end_ {vs : List Va} {ts : List Ty} (h : FitTo vs ts vs.length) : fitVs vs ts = true := by
  unfold FitTo at h
  rw [h, List.drop_length, fitVs_nil]
theorem fitVs_rep (vs : List Va) (t : Ty) (n : Nat) (hn : vs.length ≤ n) : fitVs vs (List.replicate n t) = vs.all fun v => fitV v t := by
  induction vs generalizing n with
  | nil => rw [fitVs_nil]; rfl
  | cons v r ih =>
    cases n with
    | zero => simp at hn
    | succ n => rw [List.replicate_succ, fitVs_cons, ih n (by simpa using hn)]; rfl
theorem rep_flat (n : Nat) (x : Ty) : (List.replicate n [x]).flatten = List.replicate n x := by
  induction n with
  | zero => rfl
  | succ n ih => rw [List.replicate_succ, List.flatten_cons, ih]; rfl
theorem text_nil {s : ByteArray} (h : s.toList.isEmpty = true) : textOk s = true := by
  have e : s = ⟨#[]⟩ := by
    have : s.data.toList = [] := by rw [← Lib.toList_data]; simpa using h
    exact ByteArray.ext (by simpa using this)
  subst e
  decide +kernel
section
variable {k m : Int} {s : ByteArray} {vs : List Va} {n : ByteArray} {l : List ByteArray} {kids : List Ty}
/-- All but a text: the text is empty. -/
theorem fitV_of (hk : k ≠ 11) : fitV (.mk k m s vs) (.mk k n l kids) = (s.toList.isEmpty && (numFits k l.length m && (match kts k m vs.length kids with | none => false | some ts => (ts.length == vs.length) && fitVs vs ts))) := by
  rw [fitV_mk]
  show ((k == k) && (numFits k l.length m && (((k == 11) || s.toList.isEmpty) && (textOk s && (match kts k m vs.length kids with | none => false | some ts => (ts.length == vs.length) && fitVs vs ts))))) = _
  rw [BEq.rfl, Bool.true_and, beq_eq_false_iff_ne.2 hk, Bool.false_or]
  cases h : s.toList.isEmpty
  · simp
  · rw [text_nil h]; simp
theorem fitV_kind (h : m ≠ k) {m' : Int} : fitV (.mk m m' s vs) (.mk k n l kids) = false := by
  rw [fitV_mk]
  show ((m == k) && _) = false
  rw [beq_eq_false_iff_ne.2 h, Bool.false_and]
theorem fit_list {x : Ty} : fitV (.mk 12 m s vs) (.mk 12 n l [x]) = (s.toList.isEmpty && ((m == 0) && (decide (vs.length ≤ 8) && vs.all fun v => fitV v x))) := by
  rw [fitV_of (by decide)]
  have e1 : numFits 12 l.length m = (m == 0) := by
    have : numFits 12 l.length m = inR 0 m 0 := rfl
    rw [this, Bool.eq_iff_iff, inR_iff, beq_iff_eq]; omega
  have e2 : kts 12 m vs.length [x] = some (List.replicate (min vs.length 8) x) := by
    show some (List.replicate (min vs.length 8) [x]).flatten = _
    rw [rep_flat]
  rw [e1, e2]
  show (_ && (_ && ((List.replicate (min vs.length 8) x).length == vs.length && fitVs vs (List.replicate (min vs.length 8) x)))) = _
  rw [List.length_replicate]
  by_cases h : vs.length ≤ 8
  · rw [Nat.min_eq_left h, BEq.rfl, Bool.true_and, decide_eq_true h, Bool.true_and, fitVs_rep _ _ _ (Nat.le_refl _)]
  · rw [decide_eq_false h, Bool.false_and, show (min vs.length 8 == vs.length) = false from beq_eq_false_iff_ne.2 (by omega), Bool.false_and, Bool.and_false]
theorem fit_option {x : Ty} (hx : isU x = false) : fitV (.mk 13 m s vs) (.mk 13 n l [x]) = (s.toList.isEmpty && ((m == (vs.length : Int)) && (decide (vs.length ≤ 1) && vs.all fun v => fitV v x))) := by
  rw [fitV_of (by decide)]
  have e1 : numFits 13 l.length m = inR 0 m 1 := rfl
  have e2 : kts 13 m vs.length [x] = (if m = 0 then some [] else caseT [x] (m - 1)) := rfl
  rw [e1, e2]
  by_cases h0 : m = 0
  · subst h0
    rw [if_pos rfl]
    cases vs with
    | nil => simp [fitVs_nil, inR]
    | cons v r =>
      have : ((0 : Int) == ((v :: r).length : Int)) = false := beq_eq_false_iff_ne.2 (by simp; omega)
      rw [this]
      simp
  · rw [if_neg h0]
    by_cases h1 : m = 1
    · subst h1
      have : caseT [x] (1 - 1) = some [x] := by simp [caseT, hx]
      rw [this]
      cases vs with
      | nil => simp
      | cons v r =>
        cases r with
        | nil => simp [fitVs, inR]
        | cons v2 r2 =>
          have : ((1 : Int) == ((v :: v2 :: r2).length : Int)) = false := beq_eq_false_iff_ne.2 (by simp; omega)
          rw [this]
          simp
    · have : inR 0 m 1 = false := by
        rw [← Bool.not_eq_true, inR_iff]; omega
      rw [this]
      by_cases h2 : vs.length ≤ 1
      · rw [show (m == (vs.length : Int)) = false from beq_eq_false_iff_ne.2 (by omega)]; simp
      · rw [decide_eq_false h2]; simp
theorem fit_all {k : Int} (h : k = 15 ∨ k = 16) : fitV (.mk k m s vs) (.mk k n l kids) = (s.toList.isEmpty && ((m == 0) && ((kids.length == vs.length) && fitVs vs kids))) := by
  rw [fitV_of (by omega)]
  have e1 : numFits k l.length m = (m == 0) := by
    have : numFits k l.length m = inR 0 m 0 := by rcases h with rfl | rfl <;> rfl
    rw [this, Bool.eq_iff_iff, inR_iff, beq_iff_eq]; omega
  have e2 : kts k m vs.length kids = some kids := by rcases h with rfl | rfl <;> rfl
  rw [e1, e2]
theorem fit_case {k : Int} (h : k = 14 ∨ k = 17) {x : Ty} (h0 : 0 ≤ m) (hx : kids[m.toNat]? = some x) (hn : numFits k l.length m = true) :
    fitV (.mk k m s vs) (.mk k n l kids) = (s.toList.isEmpty && (if isU x = true then vs.length == 0 else ((vs.length == 1) && vs.all fun v => fitV v x))) := by
  rw [fitV_of (by omega)]
  have hlt : m.toNat < kids.length := (List.getElem?_eq_some_iff.1 hx).1
  have e2 : kts k m vs.length kids = if isU x = true then some [] else some [x] := by
    have : kts k m vs.length kids = caseT kids m := by rcases h with rfl | rfl <;> rfl
    rw [this, caseT, if_pos ⟨h0, by omega⟩, hx]
  rw [e2, hn]
  by_cases hu : isU x = true
  · rw [if_pos hu, if_pos hu]
    cases vs with
    | nil => simp [fitVs_nil]
    | cons v r => simp
  · rw [if_neg hu, if_neg hu]
    cases vs with
    | nil => simp
    | cons v r =>
      cases r with
      | nil => simp [fitVs]
      | cons v2 r2 => simp
theorem fit_bad (hk : k ≠ 11) (hn : numFits k l.length m = false) : fitV (.mk k m s vs) (.mk k n l kids) = false := by
  rw [fitV_of hk, hn]; simp
theorem fit_plain (hk : ¬ (k = 11 ∨ k = 12 ∨ k = 13 ∨ k = 14 ∨ k = 15 ∨ k = 16 ∨ k = 17)) : fitV (.mk k m s vs) (.mk k n l kids) = (s.toList.isEmpty && (numFits k l.length m && (vs.length == 0))) := by
  rw [fitV_of (by omega)]
  have e2 : kts k m vs.length kids = some [] := by
    unfold kts
    rw [if_neg (by omega), if_neg (by omega), if_neg (by omega), if_neg (by omega)]
  rw [e2]
  cases vs with
  | nil => simp [fitVs_nil]
  | cons v r => simp
theorem fit_text : fitV (.mk 11 m s vs) (.mk 11 n l kids) = (textOk s && ((m == 0) && (vs.length == 0))) := by
  rw [fitV_mk]
  show ((11 == (11 : Int)) && (numFits 11 l.length m && (((11 == (11 : Int)) || s.toList.isEmpty) && (textOk s && (match (some [] : Option (List Ty)) with | none => false | some ts => (ts.length == vs.length) && fitVs vs ts))))) = _
  have e1 : numFits 11 l.length m = (m == 0) := by
    have : numFits 11 l.length m = inR 0 m 0 := rfl
    rw [this, Bool.eq_iff_iff, inR_iff, beq_iff_eq]; omega
  rw [e1]
  cases vs with
  | nil => cases textOk s <;> simp [fitVs_nil]
  | cons v r => cases textOk s <;> simp
end
def fitsB (v : Va) (t : Ty) : Bool := tyOk t && fitV v t
end Go.Proofs.YtofihcahimdbhaaGreatDoor
