/- Whether a value fits a type. No program in sight. What a valid type says of the kids of a value that fits it. No program in sight. A row of one type, so many times over; copy of elements of four cells. No program in sight. slices.Repeat at one type, up to eight times over. Whether a value's number fits: by the program. The types of a value's kids: by the program. Whether a value fits a type: by the program. -/
import Derived.Test.YtcpadaelgdmipaaGreatDoorTyShapeP
import Derived.Test.YtcpadaelgdmipaaGreatDoorVaM
import Derived.Test.YtcpadaelgdmipaaGreatDoorNumRange
import Derived.Test.YtcpadaelgdmipaaGreatDoorUtfT
import Derived.Test.YtcpadaelgdmipaaGreatDoorCore
import Derived.Test.YtcpadaelgdmipaaGreatDoorTyM
import Derived.Laws.CopyRow
import Derived.Deep.RegionLaw
import Derived.Deep.DeepCutAuto
import Derived.Test.YtcpadaelgdmipaaGreatDoorTyKids
import Derived.Test.YtcpadaelgdmipaaGreatDoorTyLab
import Derived.Test.YtcpadaelgdmipaaGreatDoorNums
namespace Go.Proofs.YtcpadaelgdmipaaGreatDoor
open Go.RowKit

/-- The number fits. -/
def numFits (k : Int) (nl : Nat) (m : Int) : Bool :=
  if k = 2 ∨ k = 13 ∨ k = 14 then inR 0 m 1
  else if k = 10 then charOk m
  else if k = 17 ∨ k = 18 then inR 0 m ((nl : Int) - 1)
  else if k = 19 then inR 0 m ((2 ^ nl : Nat) - 1 : Int)
  else if k = 20 ∨ k = 21 ∨ k = 22 ∨ k = 23 then inR 0 m 2147483647
  else inR (numRange k).1 m (numRange k).2.1
/-- The type of a case, or none. -/
def caseT (kids : List Ty) (j : Int) : Option (List Ty) := if 0 ≤ j ∧ j < kids.length then (match kids[j.toNat]? with | some x => if isU x = true then some [] else some [x] | none => none) else none
/-- The types of the kids. -/
def kts (k m : Int) (n : Nat) (kids : List Ty) : Option (List Ty) :=
  if k = 12 then some (List.replicate (min n 8) kids).flatten
  else if k = 15 ∨ k = 16 then some kids
  else if k = 13 then (if m = 0 then some [] else caseT kids (m - 1))
  else if k = 14 ∨ k = 17 then caseT kids m
  else some []
mutual
def fitV : Va → Ty → Bool
  | .mk k m s vs, t => (k == t.kind) && (numFits t.kind t.labels.length m && (((t.kind == 11) || s.toList.isEmpty) && (textOk s && (match kts t.kind m vs.length t.kids with | none => false | some ts => (ts.length == vs.length) && fitVs vs ts))))
def fitVs : List Va → List Ty → Bool
  | [], _ => true
  | _ :: _, [] => true
  | v :: r, ts => (match ts with | [] => true | t :: q => fitV v t && fitVs r q)
end
theorem fitVs_cons (v : Va) (r : List Va) (t : Ty) (q : List Ty) : fitVs (v :: r) (t :: q) = (fitV v t && fitVs r q) := by simp [fitVs]
theorem fitVs_nil (ts : List Ty) : fitVs [] ts = true := by simp [fitVs]
theorem fitV_mk (k m : Int) (s : ByteArray) (vs : List Va) (t : Ty) : fitV (.mk k m s vs) t = ((k == t.kind) && (numFits t.kind t.labels.length m && (((t.kind == 11) || s.toList.isEmpty) && (textOk s && (match kts t.kind m vs.length t.kids with | none => false | some ts => (ts.length == vs.length) && fitVs vs ts))))) := by
  rw [fitV]
/-- So far they fit. -/
def FitTo (vs : List Va) (ts : List Ty) (k : Nat) : Prop := fitVs vs ts = fitVs (vs.drop k) (ts.drop k)
theorem FitTo.zero (vs : List Va) (ts : List Ty) : FitTo vs ts 0 := rfl
theorem fitVs_drop {vs : List Va} {ts : List Ty} {k : Nat} {v : Va} {t : Ty} (hv : vs[k]? = some v) (ht : ts[k]? = some t) : fitVs (vs.drop k) (ts.drop k) = (fitV v t && fitVs (vs.drop (k + 1)) (ts.drop (k + 1))) := by
  rw [List.drop_eq_getElem?_toList_append, List.drop_eq_getElem?_toList_append (l := ts), hv, ht]
  exact fitVs_cons _ _ _ _
theorem FitTo.next {vs : List Va} {ts : List Ty} {k : Nat} {v : Va} {t : Ty} (h : FitTo vs ts k) (hv : vs[k]? = some v) (ht : ts[k]? = some t) (hf : fitV v t = true) : FitTo vs ts (k + 1) := by
  unfold FitTo at h ⊢
  rw [h, fitVs_drop hv ht, hf, Bool.true_and]
theorem FitTo.bad {vs : List Va} {ts : List Ty} {k : Nat} {v : Va} {t : Ty} (h : FitTo vs ts k) (hv : vs[k]? = some v) (ht : ts[k]? = some t) (hf : fitV v t = false) : fitVs vs ts = false := by
  unfold FitTo at h
  rw [h, fitVs_drop hv ht, hf, Bool.false_and]
theorem FitTo.end_ {vs : List Va} {ts : List Ty} (h : FitTo vs ts vs.length) : fitVs vs ts = true := by
  unfold FitTo at h
  rw [h, List.drop_length, fitVs_nil]
theorem fitVs_rep (vs : List Va) (t : Ty) (n : Nat) (hn : vs.length ≤ n) : fitVs vs (List.replicate n t) = vs.all fun v => fitV v t := by
  induction vs generalizing n with
  | nil => rw [fitVs_nil]; rfl
  | cons v r ih =>
    cases n with
    | zero => simp at hn
    | succ n => rw [List.replicate_succ, fitVs_cons, ih n (by simpa using hn)]; rfl
theorem rep_flat (n : Nat) (x : Ty) : (List.replicate n [x]).flatten = List.replicate n x := by
  induction n with
  | zero => rfl
  | succ n ih => rw [List.replicate_succ, List.flatten_cons, ih]; rfl
theorem text_nil {s : ByteArray} (h : s.toList.isEmpty = true) : textOk s = true := by
  have e : s = ⟨#[]⟩ := by
    have : s.data.toList = [] := by rw [← Lib.toList_data]; simpa using h
    exact ByteArray.ext (by simpa using this)
  subst e
  decide +kernel
section
variable {k m : Int} {s : ByteArray} {vs : List Va} {n : ByteArray} {l : List ByteArray} {kids : List Ty}
/-- All but a text: the text is empty. -/
theorem fitV_of (hk : k ≠ 11) : fitV (.mk k m s vs) (.mk k n l kids) = (s.toList.isEmpty && (numFits k l.length m && (match kts k m vs.length kids with | none => false | some ts => (ts.length == vs.length) && fitVs vs ts))) := by
  rw [fitV_mk]
  show ((k == k) && (numFits k l.length m && (((k == 11) || s.toList.isEmpty) && (textOk s && (match kts k m vs.length kids with | none => false | some ts => (ts.length == vs.length) && fitVs vs ts))))) = _
  rw [BEq.rfl, Bool.true_and, beq_eq_false_iff_ne.2 hk, Bool.false_or]
  cases h : s.toList.isEmpty
  · simp
  · rw [text_nil h]; simp
theorem fitV_kind (h : m ≠ k) {m' : Int} : fitV (.mk m m' s vs) (.mk k n l kids) = false := by
  rw [fitV_mk]
  show ((m == k) && _) = false
  rw [beq_eq_false_iff_ne.2 h, Bool.false_and]
theorem fit_list {x : Ty} : fitV (.mk 12 m s vs) (.mk 12 n l [x]) = (s.toList.isEmpty && ((m == 0) && (decide (vs.length ≤ 8) && vs.all fun v => fitV v x))) := by
  rw [fitV_of (by decide)]
  have e1 : numFits 12 l.length m = (m == 0) := by
    have : numFits 12 l.length m = inR 0 m 0 := rfl
    rw [this, Bool.eq_iff_iff, inR_iff, beq_iff_eq]; omega
  have e2 : kts 12 m vs.length [x] = some (List.replicate (min vs.length 8) x) := by
    show some (List.replicate (min vs.length 8) [x]).flatten = _
    rw [rep_flat]
  rw [e1, e2]
  show (_ && (_ && ((List.replicate (min vs.length 8) x).length == vs.length && fitVs vs (List.replicate (min vs.length 8) x)))) = _
  rw [List.length_replicate]
  by_cases h : vs.length ≤ 8
  · rw [Nat.min_eq_left h, BEq.rfl, Bool.true_and, decide_eq_true h, Bool.true_and, fitVs_rep _ _ _ (Nat.le_refl _)]
  · rw [decide_eq_false h, Bool.false_and, show (min vs.length 8 == vs.length) = false from beq_eq_false_iff_ne.2 (by omega), Bool.false_and, Bool.and_false]
theorem fit_option {x : Ty} (hx : isU x = false) : fitV (.mk 13 m s vs) (.mk 13 n l [x]) = (s.toList.isEmpty && ((m == (vs.length : Int)) && (decide (vs.length ≤ 1) && vs.all fun v => fitV v x))) := by
  rw [fitV_of (by decide)]
  have e1 : numFits 13 l.length m = inR 0 m 1 := rfl
  have e2 : kts 13 m vs.length [x] = (if m = 0 then some [] else caseT [x] (m - 1)) := rfl
  rw [e1, e2]
  by_cases h0 : m = 0
  · subst h0
    rw [if_pos rfl]
    cases vs with
    | nil => simp [fitVs_nil, inR]
    | cons v r =>
      have : ((0 : Int) == ((v :: r).length : Int)) = false := beq_eq_false_iff_ne.2 (by simp; omega)
      rw [this]
      simp
  · rw [if_neg h0]
    by_cases h1 : m = 1
    · subst h1
      have : caseT [x] (1 - 1) = some [x] := by simp [caseT, hx]
      rw [this]
      cases vs with
      | nil => simp
      | cons v r =>
        cases r with
        | nil => simp [fitVs, inR]
        | cons v2 r2 =>
          have : ((1 : Int) == ((v :: v2 :: r2).length : Int)) = false := beq_eq_false_iff_ne.2 (by simp; omega)
          rw [this]
          simp
    · have : inR 0 m 1 = false := by
        rw [← Bool.not_eq_true, inR_iff]; omega
      rw [this]
      by_cases h2 : vs.length ≤ 1
      · rw [show (m == (vs.length : Int)) = false from beq_eq_false_iff_ne.2 (by omega)]; simp
      · rw [decide_eq_false h2]; simp
theorem fit_all {k : Int} (h : k = 15 ∨ k = 16) : fitV (.mk k m s vs) (.mk k n l kids) = (s.toList.isEmpty && ((m == 0) && ((kids.length == vs.length) && fitVs vs kids))) := by
  rw [fitV_of (by omega)]
  have e1 : numFits k l.length m = (m == 0) := by
    have : numFits k l.length m = inR 0 m 0 := by rcases h with rfl | rfl <;> rfl
    rw [this, Bool.eq_iff_iff, inR_iff, beq_iff_eq]; omega
  have e2 : kts k m vs.length kids = some kids := by rcases h with rfl | rfl <;> rfl
  rw [e1, e2]
theorem fit_case {k : Int} (h : k = 14 ∨ k = 17) {x : Ty} (h0 : 0 ≤ m) (hx : kids[m.toNat]? = some x) (hn : numFits k l.length m = true) :
    fitV (.mk k m s vs) (.mk k n l kids) = (s.toList.isEmpty && (if isU x = true then vs.length == 0 else ((vs.length == 1) && vs.all fun v => fitV v x))) := by
  rw [fitV_of (by omega)]
  have hlt : m.toNat < kids.length := (List.getElem?_eq_some_iff.1 hx).1
  have e2 : kts k m vs.length kids = if isU x = true then some [] else some [x] := by
    have : kts k m vs.length kids = caseT kids m := by rcases h with rfl | rfl <;> rfl
    rw [this, caseT, if_pos ⟨h0, by omega⟩, hx]
  rw [e2, hn]
  by_cases hu : isU x = true
  · rw [if_pos hu, if_pos hu]
    cases vs with
    | nil => simp [fitVs_nil]
    | cons v r => simp
  · rw [if_neg hu, if_neg hu]
    cases vs with
    | nil => simp
    | cons v r =>
      cases r with
      | nil => simp [fitVs]
      | cons v2 r2 => simp
theorem fit_bad (hk : k ≠ 11) (hn : numFits k l.length m = false) : fitV (.mk k m s vs) (.mk k n l kids) = false := by
  rw [fitV_of hk, hn]; simp
theorem fit_plain (hk : ¬ (k = 11 ∨ k = 12 ∨ k = 13 ∨ k = 14 ∨ k = 15 ∨ k = 16 ∨ k = 17)) : fitV (.mk k m s vs) (.mk k n l kids) = (s.toList.isEmpty && (numFits k l.length m && (vs.length == 0))) := by
  rw [fitV_of (by omega)]
  have e2 : kts k m vs.length kids = some [] := by
    unfold kts
    rw [if_neg (by omega), if_neg (by omega), if_neg (by omega), if_neg (by omega)]
  rw [e2]
  cases vs with
  | nil => simp [fitVs_nil]
  | cons v r => simp
theorem fit_text : fitV (.mk 11 m s vs) (.mk 11 n l kids) = (textOk s && ((m == 0) && (vs.length == 0))) := by
  rw [fitV_mk]
  show ((11 == (11 : Int)) && (numFits 11 l.length m && (((11 == (11 : Int)) || s.toList.isEmpty) && (textOk s && (match (some [] : Option (List Ty)) with | none => false | some ts => (ts.length == vs.length) && fitVs vs ts))))) = _
  have e1 : numFits 11 l.length m = (m == 0) := by
    have : numFits 11 l.length m = inR 0 m 0 := rfl
    rw [this, Bool.eq_iff_iff, inR_iff, beq_iff_eq]; omega
  rw [e1]
  cases vs with
  | nil => cases textOk s <;> simp [fitVs_nil]
  | cons v r => cases textOk s <;> simp
end
def fitsB (v : Va) (t : Ty) : Bool := tyOk t && fitV v t
end Go.Proofs.YtcpadaelgdmipaaGreatDoor
namespace Go.Proofs.YtcpadaelgdmipaaGreatDoor
open Go.RowKit

theorem all_shape {k : Int} {n : ByteArray} {l : List ByteArray} {kids : List Ty} (h : Ty.all shape (.mk k n l kids) = true) : shape (.mk k n l kids) = true ∧ ∀ x ∈ kids, Ty.all shape x = true := by
  rw [Ty.all_mk, Bool.and_eq_true] at h
  exact ⟨h.1, fun x hx => List.all_eq_true.1 h.2 x hx⟩
theorem shape_fit {k : Int} {n : ByteArray} {l : List ByteArray} {kids : List Ty} (h : shape (.mk k n l kids) = true) : kidsFit k l.length kids = true ∧ (isLabelled k = true → labelsOk l = true) := by
  rw [shape_mk, Bool.and_eq_true] at h
  refine ⟨h.2, fun hl => ?_⟩
  have := h.1
  unfold headOk at this
  simp only [Bool.and_eq_true] at this
  have h4 := this.2.2.2
  rw [hl] at h4
  simpa using h4
theorem labels_len {l : List ByteArray} (h : labelsOk l = true) : 1 ≤ l.length ∧ l.length ≤ 16 := by
  unfold labelsOk at h
  simp only [Bool.and_eq_true, decide_eq_true_eq] at h
  exact h.1
theorem fit_labels {k : Int} {n : ByteArray} {l : List ByteArray} {kids : List Ty} (h : shape (.mk k n l kids) = true) (hk : k = 16 ∨ k = 17 ∨ k = 18 ∨ k = 19) : 1 ≤ l.length ∧ l.length ≤ 16 :=
  labels_len ((shape_fit h).2 (by rcases hk with rfl | rfl | rfl | rfl <;> decide))
theorem fit_len {k : Int} {n : ByteArray} {l : List ByteArray} {kids : List Ty} (h : shape (.mk k n l kids) = true) (hk : k = 15 ∨ k = 16) : kids.length ≤ 16 := by
  obtain ⟨h1, h2⟩ := shape_fit h
  rcases hk with rfl | rfl
  · rw [kf4 rfl] at h1
    simp only [Bool.and_eq_true, decide_eq_true_eq] at h1
    omega
  · rw [kf5 rfl] at h1
    simp only [Bool.and_eq_true, beq_iff_eq] at h1
    have := labels_len (h2 (by decide))
    omega
theorem fit_case_len {k : Int} {n : ByteArray} {l : List ByteArray} {kids : List Ty} (h : shape (.mk k n l kids) = true) (hk : k = 14 ∨ k = 17) : 0 < kids.length ∧ kids.length ≤ 16 ∧ (k = 14 → kids.length = 2) ∧ (k = 17 → kids.length = l.length) := by
  obtain ⟨h1, h2⟩ := shape_fit h
  rcases hk with rfl | rfl
  · rw [kf3 rfl, beq_iff_eq] at h1
    omega
  · rw [kf6 rfl, beq_iff_eq] at h1
    have := labels_len (h2 (by decide))
    omega
theorem fit_one {k : Int} {n : ByteArray} {l : List ByteArray} {kids : List Ty} (h : shape (.mk k n l kids) = true) (hk : k = 12 ∨ k = 13) : ∃ x, kids = [x] ∧ isU x = false := by
  have h1 := (shape_fit h).1
  rw [kf1 hk] at h1
  simp only [Bool.and_eq_true, beq_iff_eq, Bool.not_eq_true'] at h1
  obtain ⟨a, b⟩ := h1
  match kids, a with
  | [x], _ => exact ⟨x, rfl, by simpa using b⟩
theorem kts_12 {m : Int} {c : Nat} {x : Ty} : kts 12 m c [x] = some (List.replicate (min c 8) x) := by
  show some (List.replicate (min c 8) [x]).flatten = _
  rw [rep_flat]
theorem kts_all {k m : Int} {c : Nat} {kids : List Ty} (h : k = 15 ∨ k = 16) : kts k m c kids = some kids := by rcases h with rfl | rfl <;> rfl
theorem kts_13_0 {c : Nat} {kids : List Ty} : kts 13 0 c kids = some [] := rfl
theorem kts_13_1 {c : Nat} {x : Ty} (hx : isU x = false) : kts 13 1 c [x] = some [x] := by
  show caseT [x] (1 - 1) = _
  simp [caseT, hx]
theorem kts_case {k m : Int} {c : Nat} {x : Ty} {kids : List Ty} (h : k = 14 ∨ k = 17) (h0 : 0 ≤ m) (hx : kids[m.toNat]? = some x) : kts k m c kids = some (if isU x = true then [] else [x]) := by
  have hlt : m.toNat < kids.length := (List.getElem?_eq_some_iff.1 hx).1
  have : kts k m c kids = caseT kids m := by rcases h with rfl | rfl <;> rfl
  rw [this, caseT, if_pos ⟨h0, by omega⟩, hx]
  simp only
  split <;> rfl
theorem kts_none {k m : Int} {c : Nat} {kids : List Ty} (h : ¬ (k = 12 ∨ k = 13 ∨ k = 14 ∨ k = 15 ∨ k = 16 ∨ k = 17)) : kts k m c kids = some [] := by
  unfold kts
  rw [if_neg (by omega), if_neg (by omega), if_neg (by omega), if_neg (by omega)]
theorem num_2 {k : Int} {nl : Nat} {m : Int} (hk : k = 2 ∨ k = 13 ∨ k = 14) (h : numFits k nl m = true) : 0 ≤ m ∧ m ≤ 1 := by
  have : numFits k nl m = inR 0 m 1 := by unfold numFits; rw [if_pos hk]
  rw [this, inR_iff] at h
  exact h
theorem num_17 {k : Int} {nl : Nat} {m : Int} (hk : k = 17 ∨ k = 18) (h : numFits k nl m = true) : 0 ≤ m ∧ m ≤ (nl : Int) - 1 := by
  have : numFits k nl m = inR 0 m ((nl : Int) - 1) := by unfold numFits; rw [if_neg (by omega), if_neg (by omega), if_pos hk]
  rw [this, inR_iff] at h
  exact h
/-- The case that a number says. -/
theorem case_at {k m : Int} {n : ByteArray} {l : List ByteArray} {kids : List Ty} (h : shape (.mk k n l kids) = true) (hk : k = 14 ∨ k = 17) (hn : numFits k l.length m = true) : 0 ≤ m ∧ ∃ x, kids[m.toNat]? = some x := by
  have hl := fit_case_len h hk
  have hm : 0 ≤ m ∧ m.toNat < kids.length := by
    rcases hk with rfl | rfl
    · have := num_2 (.inr (.inr rfl)) hn; have := hl.2.2.1 rfl; omega
    · have := num_17 (.inl rfl) hn; have := hl.2.2.2 rfl; omega
  exact ⟨hm.1, _, List.getElem?_eq_getElem hm.2⟩
/-- The kids' types are there, few, and valid parts. -/
theorem kts_some {k m : Int} {n : ByteArray} {l : List ByteArray} {kids : List Ty} (h : shape (.mk k n l kids) = true) (hn : numFits k l.length m = true) (c : Nat) : ∃ ts, kts k m c kids = some ts ∧ (∀ x ∈ ts, x ∈ kids) ∧ ts.length ≤ 16 := by
  by_cases h12 : k = 12
  · subst h12
    obtain ⟨x, rfl, -⟩ := fit_one h (.inl rfl)
    refine ⟨_, kts_12, fun y hy => ?_, by rw [List.length_replicate]; omega⟩
    rw [(List.mem_replicate.1 hy).2]
    simp
  by_cases h15 : k = 15 ∨ k = 16
  · exact ⟨_, kts_all h15, (fun y hy => hy), fit_len h h15⟩
  by_cases h13 : k = 13
  · subst h13
    obtain ⟨x, rfl, hx⟩ := fit_one h (.inr rfl)
    have hm := num_2 (.inr (.inl rfl)) hn
    rcases (by omega : m = 0 ∨ m = 1) with rfl | rfl
    · exact ⟨_, kts_13_0, (fun y hy => by cases hy), by simp⟩
    · exact ⟨_, kts_13_1 hx, (fun y hy => hy), by simp⟩
  by_cases h14 : k = 14 ∨ k = 17
  · obtain ⟨h0, x, hx⟩ := case_at h h14 hn
    refine ⟨_, kts_case h14 h0 hx, fun y hy => ?_, by split <;> simp⟩
    split at hy
    · cases hy
    · rw [List.mem_singleton.1 hy]
      exact List.mem_of_getElem? hx
  exact ⟨_, kts_none (by omega), (fun y hy => by cases hy), by simp⟩
theorem fitV_some {k m : Int} {s : ByteArray} {vs : List Va} {n : ByteArray} {l : List ByteArray} {kids ts : List Ty} (h : kts k m vs.length kids = some ts) :
    fitV (.mk k m s vs) (.mk k n l kids) = (numFits k l.length m && (((k == 11) || s.toList.isEmpty) && (textOk s && ((ts.length == vs.length) && fitVs vs ts)))) := by
  rw [fitV_mk]
  show ((k == k) && (numFits k l.length m && (((k == 11) || s.toList.isEmpty) && (textOk s && (match kts k m vs.length kids with | none => false | some ts => (ts.length == vs.length) && fitVs vs ts))))) = _
  rw [h, BEq.rfl, Bool.true_and]
/-- What it says that a value fits. -/
theorem fit_open {k m : Int} {s : ByteArray} {vs : List Va} {k' : Int} {n : ByteArray} {l : List ByteArray} {kids : List Ty} (hs : shape (.mk k' n l kids) = true) (h : fitV (.mk k m s vs) (.mk k' n l kids) = true) :
    k = k' ∧ numFits k l.length m = true ∧ textOk s = true ∧ ∃ ts, kts k m vs.length kids = some ts ∧ (∀ x ∈ ts, x ∈ kids) ∧ ts.length = vs.length ∧ ts.length ≤ 16 ∧ fitVs vs ts = true := by
  have hk : k = k' := by
    apply Decidable.byContradiction
    intro hne
    rw [fitV_kind hne] at h
    cases h
  subst hk
  have hn : numFits k l.length m = true := by
    rw [fitV_mk] at h
    simp only [Bool.and_eq_true] at h
    exact h.2.1
  obtain ⟨ts, h1, h2, h3⟩ := kts_some hs hn vs.length
  rw [fitV_some h1] at h
  simp only [Bool.and_eq_true, beq_iff_eq] at h
  exact ⟨rfl, hn, h.2.2.1, ts, h1, h2, h.2.2.2.1, h3, h.2.2.2.2⟩
theorem fitVs_at {vs : List Va} {ts : List Ty} (h : fitVs vs ts = true) {i : Nat} {v : Va} {t : Ty} (hv : vs[i]? = some v) (ht : ts[i]? = some t) : fitV v t = true := by
  induction vs generalizing ts i with
  | nil => simp at hv
  | cons x r ih =>
    cases ts with
    | nil => simp at ht
    | cons y q =>
      rw [fitVs_cons, Bool.and_eq_true] at h
      cases i with
      | zero => simp at hv ht; subst hv ht; exact h.1
      | succ i => exact ih h.2 (by simpa using hv) (by simpa using ht)
end Go.Proofs.YtcpadaelgdmipaaGreatDoor
namespace Go.Proofs.YtcpadaelgdmipaaGreatDoor
open Go.RowKit

/-- Copy between rows whose elements have any number of cells: what lay in the source goes over. -/
theorem run_copy_any {P : Program} (w : World) (dT sT ty elem : TypeId) {i : TypeInfo} (g o dLen dCap : Nat) (a : Addr) (sLen sCap : Nat) (cur : Array Value) (t : TypeId) (cs : List Value)
    (hu : P.underlying dT = some (.slice elem)) (hi : P.info? elem = some i) (hg : w.heap[g]? = some (.cells cur t (0, 0))) (hn : cs.length = Nat.min sLen dLen * i.size)
    (hsrc : ∀ j v, cs[j]? = some v → w.cell? (a.add j) = some v) (hfit : o + cs.length ≤ cur.size) (h1 : ∀ v ∈ cs, v.oneCell' = true) :
    (Builtin.copy_ #[dT, sT] ty #[.slice (some ⟨g, o, none⟩) dLen dCap, .slice (some a) sLen sCap]).run P w =
      .ok (goInt (Nat.min sLen dLen)) (w.setRow g (cur.toList.take o ++ cs ++ cur.toList.drop (o + cs.length)).toArray) := by
  have hl := run_loadCells_list (P := P) w a cs hsrc
  have hst := run_storeCells_at P g o t cs 0 cur w hg (by simpa using hfit) h1
  simp [Builtin.copy_, run_underlying hu, Builtin.lenOf, Builtin.firstCells, sizeOf, typeInfo, hi, ← hn, hl, hst]
theorem copy_none_any {P : Program} (w : World) (dT sT ty elem : TypeId) {i : TypeInfo} (d a : Option Addr) (dLen dCap sLen sCap : Nat) (hu : P.underlying dT = some (.slice elem)) (hi : P.info? elem = some i) (hn : Nat.min sLen dLen = 0) :
    (Builtin.copy_ #[dT, sT] ty #[.slice d dLen dCap, .slice a sLen sCap]).run P w = .ok (goInt 0) w := by
  have hl : ∀ (x : Addr), (loadCells x 0).run P w = .ok #[] w := fun x => by simpa using run_loadCells_list (P := P) w x [] (by simp)
  cases d <;> cases a <;> simp [Builtin.copy_, run_underlying hu, Builtin.lenOf, Builtin.firstCells, sizeOf, typeInfo, hi, hn, storeCells, hl]
/-- The same cells, n times over. -/
def timesL (xs : List Value) (n : Nat) : List Value := (List.replicate n xs).flatten
theorem timesL_length (xs : List Value) (n : Nat) : (timesL xs n).length = n * xs.length := by
  unfold timesL; simp
theorem timesL_add (xs : List Value) (n m : Nat) : timesL xs (n + m) = timesL xs n ++ timesL xs m := by
  unfold timesL
  rw [← List.replicate_append_replicate, List.flatten_append]
theorem timesL_mem {xs : List Value} {n : Nat} {v : Value} (h : v ∈ timesL xs n) : v ∈ xs := by
  unfold timesL at h
  obtain ⟨l, hl, hv⟩ := List.mem_flatten.1 h
  rw [(List.mem_replicate.1 hl).2] at hv
  exact hv
theorem timesL_one (xs : List Value) : timesL xs 1 = xs := by simp [timesL]
theorem timesL_zero (xs : List Value) : timesL xs 0 = [] := rfl
/-- Row g, made for c elements, holds the same cells n times over so far. -/
def Times (w0 w : World) (g : Nat) (t : TypeId) (xs : List Value) (c n : Nat) : Prop :=
  ∃ cur : Array Value, w.heap[g]? = some (.cells cur t (0, 0)) ∧ cur.size = c * xs.length ∧ cur.toList.take (n * xs.length) = timesL xs n ∧ Below w0.heap.size w0 w ∧ w.heap.size = w0.heap.size + 1 ∧ g = w0.heap.size ∧ n ≤ c
theorem Times.start (w0 : World) (cur : Array Value) (t : TypeId) (xs : List Value) (c : Nat) (h : cur.size = c * xs.length) : Times w0 (w0.alloc (.cells cur t)) w0.heap.size t xs c 0 :=
  ⟨cur, heap_alloc_new w0 _, h, by simp [timesL], (Below.refl _ _).alloc (Nat.le_refl _) _, by simp, rfl, Nat.zero_le _⟩
theorem below_setRow {B : Nat} {w0 w : World} {g : Nat} (h : Below B w0 w) (hg : B ≤ g) (cs : Array Value) : Below B w0 (w.setRow g cs) := by
  refine ⟨h.os, h.tape, h.output, by rw [setRow_size]; exact h.size, fun k hk => ?_⟩
  have : (w.setRow g cs).heap[k]? = w.heap[k]? := by
    have hne : g ≠ k := by omega
    simp [World.setRow, Array.getElem?_modify, hne]
  rw [this]
  exact h.block k hk
/-- m more of them, laid behind. -/
theorem Times.more {w0 w : World} {g : Nat} {t : TypeId} {xs : List Value} {c n : Nat} (h : Times w0 w g t xs c n) (m : Nat) (hm : n + m ≤ c) (o : Nat) (ho : o = n * xs.length) :
    ∃ cur : Array Value, w.heap[g]? = some (.cells cur t (0, 0)) ∧ o + (timesL xs m).length ≤ cur.size ∧
      Times w0 (w.setRow g (cur.toList.take o ++ timesL xs m ++ cur.toList.drop (o + (timesL xs m).length)).toArray) g t xs c (n + m) := by
  subst ho
  obtain ⟨cur, hg, hs, ht, hb, hz, rfl, hn⟩ := h
  have hle : n * xs.length + m * xs.length ≤ c * xs.length := by rw [← Nat.add_mul]; exact Nat.mul_le_mul_right _ hm
  have hf : n * xs.length + (timesL xs m).length ≤ cur.size := by rw [timesL_length, hs]; exact hle
  refine ⟨cur, hg, hf, _, setRow_heap w _ cur _ t _ hg, ?_, ?_, below_setRow hb (Nat.le_refl _) _, by rw [setRow_size]; exact hz, rfl, hm⟩
  · simp only [List.size_toArray, List.length_append, List.length_take, List.length_drop, Array.length_toList]
    have h1 : n * xs.length ≤ cur.size := by omega
    rw [Nat.min_eq_left h1, ← hs]
    omega
  · have hl : (cur.toList.take (n * xs.length) ++ timesL xs m).length = (n + m) * xs.length := by
      rw [List.length_append, List.length_take, timesL_length, show cur.toList.length = cur.size from Array.length_toList, Nat.min_eq_left (by omega), Nat.add_mul]
    rw [List.take_append_of_le_length (by rw [hl]; exact Nat.le_refl _), ← hl, List.take_length, ht, timesL_add]
theorem Times.drew {w0 w : World} {g : Nat} {t : TypeId} {xs : List Value} {c n : Nat} (h : Times w0 w g t xs c n) : Times w0 w.drew g t xs c n := by
  obtain ⟨cur, hg, hs, ht, hb, hz, hg', hn⟩ := h
  exact ⟨cur, hg, hs, ht, hb.drew, hz, hg', hn⟩
/-- Such a copy as one step of a region that draws its order. -/
theorem step_copy {P : Program} {ops : Array Oper} {o : Oper} {a : Act} {K : Act → World → Prop} {Q : Exit → Act → World → Prop} {E : Prop} {w w' : World} {t : TypeId} {d v : Value} {m : Nat} (s x : Operand)
    (hr : ∀ ty, (Builtin.copy_ #[t, t] ty #[d, v]).run P w = .ok (goInt m) w') (h : K (a.put o.dst (goInt m)) w')
    (hgd : o.guard = none := by exact rfl) (ho : o.op = .call { callee := .builtin .copy, args := #[s, x], argTypes := #[t, t] } := by exact rfl)
    (hs : a.eval s = d := by simp [Act.eval, Act.put]) (hx : a.eval x = v := by simp [Act.eval, Act.put]) :
    if Region.wanted o (yielded ops a.tmps) = true then Oper.wp P o a w K Q else E := by
  have hw : Region.wanted o (yielded ops a.tmps) = true := by simp [Region.wanted, hgd]
  rw [if_pos hw]
  unfold Oper.wp execOp
  simp only [ho, resolve, invoke, builtin, Sem.run_bind, Sem.run_pure, Result.andThen_ok, List.map_toArray, List.map_cons, List.map_nil, hs, hx, hr]
  exact h
theorem Times.cells {w0 w : World} {g : Nat} {t : TypeId} {xs : List Value} {c n : Nat} (h : Times w0 w g t xs c n) {m j : Nat} {v : Value} (hm : m ≤ n) (hv : (timesL xs m)[j]? = some v) : w.cell? ⟨g, j, none⟩ = some v := by
  obtain ⟨cur, hg, hs, ht, -⟩ := h
  have hj : j < m * xs.length := by rw [← timesL_length]; exact (List.getElem?_eq_some_iff.1 hv).1
  have hjn : j < n * xs.length := Nat.lt_of_lt_of_le hj (Nat.mul_le_mul_right _ hm)
  rw [cell_of_row w g j cur t (0, 0) hg, ← Array.getElem?_toList]
  have h1 : (timesL xs n)[j]? = some v := by
    rw [show n = m + (n - m) by omega, timesL_add, List.getElem?_append_left (by rw [timesL_length]; exact hj)]
    exact hv
  rw [← ht, List.getElem?_take, if_pos hjn] at h1
  exact h1
theorem ats_times {w : World} {S : Nat → Prop} {x : Ty} {xs : List Value} (h : D.Ats w S x.ds xs) (n : Nat) : D.Ats w S ((List.replicate n x).flatMap Ty.ds) (timesL xs n) := by
  induction n with
  | zero => exact D.Ats.nil
  | succ n ih =>
    rw [List.replicate_succ, List.flatMap_cons]
    have : timesL xs (n + 1) = xs ++ timesL xs n := by simp [timesL, List.replicate_succ]
    rw [this]
    exact h.append ih
theorem Times.done {w0 w : World} {S : Nat → Prop} {g : Nat} {t : TypeId} {x : Ty} {xs : List Value} {c : Nat} (h : Times w0 w g t xs c c) (hS : S g) (hx : D.Ats w S x.ds xs) (hc : c ≤ maxLen) : D.At w S (rows Ty.ds 4 (List.replicate c x)) (.slice (some ⟨g, 0, none⟩) c c) := by
  have hl : xs.length = 4 := by rw [hx.length, Ty.len]
  have h' := h
  obtain ⟨cur, hg, hs, ht, -⟩ := h
  unfold rows
  simp only [D.At, List.length_replicate]
  refine ⟨_, c, timesL xs c, rfl, Nat.le_refl _, hc, by rw [timesL_length, hl], fun _ => ⟨g, 0, rfl, hS, (Array.getElem?_eq_some_iff.1 hg).1, fun j u hu => ?_⟩, ats_times hx c⟩
  rw [Nat.zero_add]
  exact h'.cells (Nat.le_refl _) hu
theorem at_nil {α : Type} {f : α → List D} {size : Nat} {w : World} {S : Nat → Prop} {A : Option Addr} {c : Nat} (h : c ≤ maxLen) : D.At w S (rows f size ([] : List α)) (.slice A 0 c) := by
  unfold rows
  simp only [D.At]
  exact ⟨A, c, [], rfl, Nat.zero_le _, h, by simp, fun h => by simp at h, D.Ats.nil⟩
theorem at_one {y : Ty} {w : World} {S : Nat → Prop} {G : Nat} {t : TypeId} {cs : List Value} (hG : S G) (hb : Box w G t cs) (h : D.Ats w S y.ds cs) : D.At w S (rows Ty.ds 4 [y]) (.slice (some ⟨G, 0, none⟩) 1 1) := by
  have hl := h.length
  rw [Ty.len] at hl
  unfold rows
  simp only [D.At]
  refine ⟨_, 1, cs, rfl, Nat.le_refl _, by unfold maxLen; omega, by rw [hl]; rfl, fun _ => ⟨G, 0, rfl, hG, hb.lt, fun j u hu => ?_⟩, ?_⟩
  · rw [Nat.zero_add, hb.cell]; simpa using hu
  · simpa using h
end Go.Proofs.YtcpadaelgdmipaaGreatDoor
namespace Go.Proofs.YtcpadaelgdmipaaGreatDoor
open Go.RowKit

theorem and_le8 (c : Nat) (h : c ≤ 8) : bits .and .u64 (c : Int) 4294967295 = (c : Int) := by
  have : ∀ c : Fin 9, bits .and .u64 ((c.val : Nat) : Int) 4294967295 = ((c.val : Nat) : Int) := by decide +kernel
  exact this ⟨c, by omega⟩
set_option maxRecDepth 20000 in
theorem mul64_1c (c : Nat) (h : c ≤ 8) (w : World) : Calls Tryz.prog 143 #[.int .u64 1, .int .u64 c] w fun e w' => e = .returned (.tuple #[.int .u64 0, .int .u64 c]) ∧ w = w' := by
  have a1 := and_le8 1 (by decide)
  have ac := and_le8 c h
  obtain rfl | rfl | rfl | rfl | rfl | rfl | rfl | rfl | rfl : c = 0 ∨ c = 1 ∨ c = 2 ∨ c = 3 ∨ c = 4 ∨ c = 5 ∨ c = 6 ∨ c = 7 ∨ c = 8 := by omega
  all_goals
    go_enter Tryz.func143, Tryz.ntmps143
    go_wp2
    go_ret2
    exact ⟨rfl, rfl⟩
set_option maxRecDepth 20000 in
theorem mul_1c (c : Nat) (h : c ≤ 8) (w : World) : Calls Tryz.prog 126 #[.int .u64 1, .int .u64 c] w fun e w' => e = .returned (.tuple #[.int .u64 0, .int .u64 c]) ∧ w = w' := by
  go_enter Tryz.func126, Tryz.ntmps126
  go_wp2_with (go_at_call 143; refine (mul64_1c c h _).mono ?_; rintro e w1 ⟨rfl, rfl⟩)
  go_ret2
  exact ⟨rfl, rfl⟩
theorem info_kT : (Tryz.prog.info? 40).map (fun i => (i.zero, i.size, i.bytes)) = some (some (.agg #[.int .i64 0, .string ⟨#[]⟩, .slice none 0 0, .slice none 0 0]), 4, 72) := by kernel_rfl
set_option maxHeartbeats 1000000 in
set_option maxRecDepth 20000 in
theorem repeat_i {S : Nat → Prop} (x : Ty) (A : Option Addr) (d c : Nat) (hc : c ≤ 8) (w : World) (hS : S w.heap.size) (hv : D.At w S (rows Ty.ds 4 [x]) (.slice A 1 d)) :
    Calls Tryz.prog 110 #[.slice A 1 d, .int .i64 c] w fun e w' => ∃ A' d', e = .returned (.slice A' c d') ∧ D.At w' S (rows Ty.ds 4 (List.replicate c x)) (.slice A' c d') ∧ Below w.heap.size w w' := by
  obtain ⟨i0, hi, hz0, hz1, hz2⟩ := info_parts info_kT
  obtain ⟨cur, hcs, hmk⟩ := make_fact (P := Tryz.prog) Tryz.underlying38 hi hz0 hz1 hz2 c (by omega) (by omega) w
  obtain ⟨b, off, us, hA, -, hbl, hx, hxl, hcell⟩ := rows_at (i := 0) (x := x) Ty.len hv rfl
  subst hA
  have hsrc : ∀ j v, us[j]? = some v → w.cell? ((⟨b, off, none⟩ : Addr).add j) = some v := fun j v h => by
    rw [Addr.add_lit]; have := hcell j v h; simpa using this
  have h1 : ∀ u ∈ us, u.oneCell' = true := by
    obtain ⟨k0, k1, k2, k3, k4, k5, k6, k7, rfl⟩ := Ty.form hx
    intro u hu
    simp at hu
    rcases hu with rfl | rfl | rfl | rfl <;> rfl
  have HX := Lib.hid hx
  have HH := Lib.hid (And.intro hi (And.intro hz1 (And.intro hsrc (And.intro h1 (And.intro hxl hS)))))
  have HT0 := Lib.hid (Times.start w cur 40 us c (by rw [hcs, hxl]))
  have hc0 : (0 : Int) ≤ (c : Int) := by omega
  obtain ⟨m0, hm0⟩ : ∃ m, Nat.min 1 c = m := ⟨_, rfl⟩
  have hm0c : m0 ≤ 1 ∧ m0 ≤ c := by rw [← hm0]; exact ⟨Nat.min_le_left _ _, Nat.min_le_right _ _⟩
  obtain ⟨cur0, q0, q1, q2⟩ := HT0.out.more m0 (by omega) 0 (by simp)
  have hcp : ∀ ty, (Builtin.copy_ #[38, 38] ty #[.slice (some ⟨w.heap.size, 0, none⟩) c c, .slice (some ⟨b, off, none⟩) 1 d]).run Tryz.prog (w.alloc (.cells cur 40)) = _ :=
    fun ty => run_copy_any (w.alloc (.cells cur 40)) _ _ ty 40 w.heap.size 0 c c ⟨b, off, none⟩ 1 d cur0 40 (timesL us m0) Tryz.underlying38 hi q0 (by rw [timesL_length, hxl, hz1, hm0]) (fun j v hj => by
      have hj1 : us[j]? = some v := by
        rcases (by omega : m0 = 0 ∨ m0 = 1) with e | e
        · rw [e, timesL_zero] at hj; simp at hj
        · rw [e, timesL_one] at hj; exact hj
      have := hsrc j v hj1
      rw [Addr.add_lit] at this ⊢
      rw [((Below.refl _ w).alloc (Nat.le_refl _) (.cells cur 40)).cell (p := ⟨b, off + j, none⟩) hbl]
      exact this) q1 (fun u hu => h1 u (timesL_mem hu))
  obtain ⟨wA, hwA⟩ : ∃ wA, wA = (w.alloc (.cells cur 40)).setRow w.heap.size (cur0.toList.take 0 ++ timesL us m0 ++ cur0.toList.drop (0 + (timesL us m0).length)).toArray := ⟨_, rfl⟩
  rw [← hwA] at q2
  simp only [← hwA, hm0] at hcp
  have HTA := Lib.hid q2
  have HCP := Lib.hid hcp
  clear hwA hcp q0 q1 q2 hi hz0 hz1 hz2 hcell hsrc h1 hx hxl hv hS HT0 hcs
  go_enter Tryz.func110, Tryz.ntmps110
  go_wp2_with (go_at_call 126; refine (mul_1c c hc _).mono ?_; rintro e w1 ⟨rfl, rfl⟩)
  rw [HCP.out]
  simp only [Result.andThen]
  rw [Oper.upon_value]
  clear hmk
  have HM := Lib.hid hm0
  clear hm0
  obtain ⟨g, hg⟩ : ∃ g, w.heap.size = g := ⟨_, rfl⟩
  have HG := Lib.hid hg
  rw [hg] at HTA HCP
  go_wp2
  clear hg
  go_loopw [8] (fun x8 wr => ∃ n : Nat, x8 = .int .i64 n ∧ Times w wr g 40 us c n ∧ (1 ≤ n ∨ n = c)) (fun x8 _ => c - (intOf x8).toNat)
  case atStart => exact ⟨m0, rfl, by have := HTA.out; rwa [Nat.zero_add] at this, by have := HM.out; rw [show Nat.min 1 c = min 1 c from rfl] at this; omega⟩
  case round =>
    obtain ⟨n, rfl, hT, hn1⟩ := hrel
    have hnc : n ≤ c := by obtain ⟨_, _, _, _, _, _, _, h⟩ := hT; exact h
    by_cases hlt : n < c
    · have i0 : (0 : Int) ≤ (n : Int) := by omega
      have i1 : (n : Int) < (c : Int) := by omega
      have i2 : (n : Int) ≤ (c : Int) := by omega
      obtain ⟨m, hm⟩ : ∃ m, Nat.min n (c - n) = m := ⟨_, rfl⟩
      have hmm : 1 ≤ m ∧ m ≤ n ∧ n + m ≤ c := by rw [← hm, show Nat.min n (c - n) = min n (c - n) from rfl]; omega
      obtain ⟨cur1, q0, q1, q2⟩ := hT.drew.more m hmm.2.2 (n * 4) (by rw [HH.out.2.2.2.2.1])
      have hcp : ∀ ty, (Builtin.copy_ #[38, 38] ty #[.slice (some ⟨g, n * 4, none⟩) (c - n) (c - n), .slice (some ⟨g, 0, none⟩) n c]).run Tryz.prog wr.drew = _ :=
        fun ty => run_copy_any wr.drew _ _ ty 40 g (n * 4) (c - n) (c - n) ⟨g, 0, none⟩ n c cur1 40 (timesL us m) Tryz.underlying38 HH.out.1 q0 (by rw [timesL_length, HH.out.2.2.2.2.1, HH.out.2.1, hm]) (fun j v hj => by
          rw [Addr.add_lit, Nat.zero_add]
          exact hT.drew.cells hmm.2.1 hj) q1 (fun u hu => HH.out.2.2.2.1 u (timesL_mem hu))
      obtain ⟨wB, hwB⟩ : ∃ wB, wB = wr.drew.setRow g (cur1.toList.take (n * 4) ++ timesL us m ++ cur1.toList.drop (n * 4 + (timesL us m).length)).toArray := ⟨_, rfl⟩
      rw [← hwB] at q2
      simp only [← hwB, hm] at hcp
      clear hwB
      have i4 : IntKind.i64.wrap ((n : Int) + (m : Int)) = ((n + m : Nat) : Int) := by rw [IntKind.wrap_i64]; omega
      go_upto_region 9 with fail
      go_region_law ((refine step_copy (d := .slice (some ⟨g, n * 4, none⟩) (c - n) (c - n)) (v := .slice (some ⟨g, 0, none⟩) n c) (.tmp 41) (.tmp 44) hcp ?_ (hs := by simp [Act.eval, Act.put]; omega)))
      all_goals
        have HN := Lib.hid q2
        clear hcp q0 q1 q2 hT hm
        go_wp2
        go_roundw
        case rel => exact ⟨n + m, by go_num, HN.out, by omega⟩
        case measure => simp [intOf]; omega
    · obtain rfl : n = c := by omega
      have hS : S g := by have := HH.out.2.2.2.2.2; rwa [HG.out] at this
      have HB : Below w.heap.size w wr := by obtain ⟨_, _, _, _, h, _⟩ := hT; exact h
      have HD := Lib.hid (hT.done hS (HX.out.below HB) (by unfold maxLen; omega))
      have HBB := Lib.hid HB
      clear hT hS HB hn1
      go_wp2
      go_ret
      exact ⟨_, _, rfl, HD.out, HBB.out⟩
end Go.Proofs.YtcpadaelgdmipaaGreatDoor
namespace Go.Proofs.YtcpadaelgdmipaaGreatDoor
open Go.RowKit

theorem charOk_i (n : Int) (w : World) : Calls Tryz.prog 108 #[.int .i64 n] w fun e w' => e = .returned (.bool (charOk n)) ∧ w = w' := by
  by_cases h : inR 0 n 55295 = true
  all_goals
    go_enter Tryz.func108, Tryz.ntmps108
    go_wp2_with (go_at_call 35; refine (within_any _ _ _ _).mono ?_; rintro e w1 ⟨rfl, rfl⟩)
    go_ret
    exact ⟨ret_eq (by simp_all [charOk]), rfl⟩
/-- The kinds of a valid part. -/
theorem kind_in {k : Int} {n : ByteArray} {l : List ByteArray} {kids : List Ty} (h : shape (.mk k n l kids) = true) : 1 ≤ k ∧ k ≤ 23 := by
  by_cases hk : k = 12 ∨ k = 13 ∨ k = 22 ∨ k = 23 ∨ k = 14 ∨ k = 15 ∨ k = 16 ∨ k = 17
  · omega
  · have h1 := (shape_fit h).1
    rw [kf7 hk, Bool.and_eq_true, inR_iff] at h1
    exact h1.1
theorem kind_ways {k : Int} (h : 1 ≤ k ∧ k ≤ 23) : k = 1 ∨ k = 2 ∨ k = 3 ∨ k = 4 ∨ k = 5 ∨ k = 6 ∨ k = 7 ∨ k = 8 ∨ k = 9 ∨ k = 10 ∨ k = 11 ∨ k = 12 ∨ k = 13 ∨ k = 14 ∨ k = 15 ∨ k = 16 ∨ k = 17 ∨ k = 18 ∨ k = 19 ∨ k = 20 ∨ k = 21 ∨ k = 22 ∨ k = 23 := by omega
theorem shl_1 (nl : Nat) (h : nl ≤ 16) : wrap64 (wrap64 ((2 : Int) ^ nl) - 1) = ((2 ^ nl : Nat) : Int) - 1 := by
  obtain rfl | rfl | rfl | rfl | rfl | rfl | rfl | rfl | rfl | rfl | rfl | rfl | rfl | rfl | rfl | rfl | rfl : nl = 0 ∨ nl = 1 ∨ nl = 2 ∨ nl = 3 ∨ nl = 4 ∨ nl = 5 ∨ nl = 6 ∨ nl = 7 ∨ nl = 8 ∨ nl = 9 ∨ nl = 10 ∨ nl = 11 ∨ nl = 12 ∨ nl = 13 ∨ nl = 14 ∨ nl = 15 ∨ nl = 16 := by omega
  all_goals decide +kernel
set_option maxHeartbeats 4000000 in
set_option maxRecDepth 20000 in
theorem numOk_i (k m : Int) (s : ByteArray) (vV : Value) (n : ByteArray) (l : List ByteArray) (vK : Value) (A : Option Addr) (c : Nat) (k' : Int) (w : World) (hk : 1 ≤ k ∧ k ≤ 23) (hl : l.length ≤ 16 ∨ k ≠ 19) (hl2 : l.length ≤ 9223372036854775807) (fV : ∃ a b c, vV = .slice a b c) (fK : ∃ a b c, vK = .slice a b c) :
    Calls Tryz.prog 86 #[.agg #[.int .i64 k', .int .i64 m, .string s, vV], .agg #[.int .i64 k, .string n, .slice A l.length c, vK]] w fun e w' => e = .returned (.bool (numFits k l.length m)) ∧ Below w.heap.size w w' := by
  obtain ⟨a1, b1, c1, rfl⟩ := fV
  obtain ⟨a2, b2, c2, rfl⟩ := fK
  rcases kind_ways hk with rfl | rfl | rfl | rfl | rfl | rfl | rfl | rfl | rfl | rfl | rfl | rfl | rfl | rfl | rfl | rfl | rfl | rfl | rfl | rfl | rfl | rfl | rfl
  case inr.inr.inr.inr.inr.inr.inr.inr.inr.inr.inr.inr.inr.inr.inr.inr.inr.inr.inl =>
    have h16 : l.length ≤ 16 := hl.resolve_right (fun h => h rfl)
    have HS := Lib.hid (shl_1 l.length h16)
    go_enter Tryz.func86, Tryz.ntmps86
    go_wp2_with fail
    rw [HS.out]
    refine (within_any _ _ _ _).mono ?_
    rintro e w1 ⟨rfl, rfl⟩
    go_wp2
    go_ret
    exact ⟨rfl, (by repeat (first | exact Below.refl _ _ | refine Below.alloc ?_ (by first | omega | (simp <;> omega)) _))⟩
  all_goals
    go_enter Tryz.func86, Tryz.ntmps86
    go_wp2_with (first
      | (go_at_call 107; refine (numRange_i0 _ _).mono ?_; rintro e w1 ⟨rfl, rfl⟩)
      | (go_at_call 108; refine (charOk_i _ _).mono ?_; rintro e w1 ⟨rfl, rfl⟩)
      | (go_at_call 105; refine (sizeS_any _ _ _ _).mono ?_; rintro e w1 ⟨rfl, rfl⟩)
      | (go_at_call 35; refine (within_any _ _ _ _).mono ?_; rintro e w1 ⟨rfl, rfl⟩))
    go_ret
    exact ⟨rfl, (by repeat (first | exact Below.refl _ _ | refine Below.alloc ?_ (by first | omega | (simp <;> omega)) _))⟩
theorem isUnit_v (k : Int) (n : ByteArray) (v v' : Value) (A A' : Option Addr) (m c m' c' : Nat) (hv : v = .slice A m c) (hv' : v' = .slice A' m' c') (w : World) : Calls Tryz.prog 111 #[.agg #[.int .i64 k, .string n, v, v']] w fun e w' => e = .returned (.bool (k == 1)) ∧ Below w.heap.size w w' := by
  subst hv hv'
  cases h : (k == 1)
  all_goals
    go_enter Tryz.func111, Tryz.ntmps111
    go_wp2
    go_ret
    exact ⟨rfl, (Below.refl _ _).alloc (Nat.le_refl _) _⟩
/-- The type of a case; 13, 0: unit. -/
def RetCase (S : Nat → Prop) (y : Ty) (w : World) (e : Ending) (w' : World) : Prop := ∃ cs, e = .returned (.tuple #[.agg cs.toArray, .bool true]) ∧ D.Ats w' S y.ds cs ∧ Below w.heap.size w w'
theorem ret_case {S : Nat → Prop} {y : Ty} {w w' : World} {cs : List Value} (h : D.Ats w S y.ds cs) (hb : Below w.heap.size w w') : RetCase S y w (.returned (.tuple #[.agg cs.toArray, .bool true])) w' := ⟨cs, rfl, h.below hb, hb⟩
set_option maxRecDepth 20000 in
theorem caseType_none {S : Nat → Prop} (n : ByteArray) (A A' : Option Addr) (m c m' c' : Nat) (w : World) : Calls Tryz.prog 73 #[.agg #[.int .i64 13, .string n, .slice A m c, .slice A' m' c'], .int .i64 0] w (RetCase S (.mk 1 ⟨#[]⟩ [] []) w) := by
  go_enter Tryz.func73, Tryz.ntmps73
  go_wp2
  refine bodyPost_ret (v := .tuple #[.agg #[.int .i64 1, .string ⟨#[]⟩, .slice none 0 0, .slice none 0 0], .bool true]) (by simp [results, Tryz.results73, go_sem]) rfl ⟨[.int .i64 1, .string ⟨#[]⟩, .slice none 0 0, .slice none 0 0], rfl, ?_, (by repeat (first | exact Below.refl _ _ | with_reducible refine Below.setCell ?_ (by simp <;> omega) _ | refine Below.alloc ?_ (by first | omega | (simp <;> omega)) _))⟩
  exact Ty.mk_ (by omega) (by decide) (show D.At _ _ (strs []) _ from at_nil (Nat.zero_le _)) (at_nil (Nat.zero_le _))
/-- The number of a case within the row of kids. -/
def caseNo (k m : Int) : Int := if k = 13 then m - 1 else m
set_option maxHeartbeats 2000000 in
set_option maxRecDepth 20000 in
theorem caseType_some {S : Nat → Prop} (k m : Int) (q : Nat) (n : ByteArray) (l : List ByteArray) (kids : List Ty) (A A' : Option Addr) (c c' : Nat) (w : World) (hq : caseNo k m = q) (hk : k = 13 → m = 1) (y : Ty) (hy : kids[q]? = some y) (hv : D.At w S (rows Ty.ds 4 kids) (.slice A' kids.length c')) :
    Calls Tryz.prog 73 #[.agg #[.int .i64 k, .string n, .slice A l.length c, .slice A' kids.length c'], .int .i64 m] w (RetCase S y w) := by
  have hpos : q < kids.length := (List.getElem?_eq_some_iff.1 hy).1
  obtain ⟨-, hnk, hck⟩ := rows_bound hv
  unfold maxLen at hck
  have hk0 : (0 : Int) ≤ (q : Int) := by omega
  have hk1 : (q : Int) < (kids.length : Int) := by omega
  have hin : inR 0 q ((kids.length : Int) - 1) = true := inR_iff.2 ⟨by omega, by omega⟩
  obtain ⟨b, off, u0, u1, u2, u3, e, hSb, hbl, hat, d0, d1, d2, d3⟩ := rows_at4 Ty.len hv hy
  subst e
  obtain ⟨f0, f1, f2, f3, f4, f5, f6, f7, exx⟩ := Ty.form hat
  simp only [List.cons.injEq, and_true] at exx
  obtain ⟨rfl, rfl, rfl, rfl⟩ := exx
  have HA := Lib.hid hat
  have HIN := Lib.hid hin
  clear hy hv hat hin hpos
  by_cases g13 : k = 13
  · subst g13
    obtain rfl := hk rfl
    obtain rfl : q = 0 := by have : caseNo 13 1 = 0 := rfl; omega
    simp only [Nat.zero_mul, Nat.add_zero] at d0 d1 d2 d3
    clear hk hq hk0
    go_enter Tryz.func73, Tryz.ntmps73
    go_wp2_with fail
    refine (sizeT_any _ _ _ _).mono ?_
    rintro e w1 ⟨rfl, rfl⟩
    go_wp2_with fail
    refine (within_any _ _ _ _).mono ?_
    rintro e w2 ⟨rfl, rfl⟩
    rw [show inR 0 0 ((kids.length : Int) - 1) = true from HIN.out]
    go_wp2
    exact bodyPost_ret (v := .tuple #[.agg #[.int .i64 f0, .string f1, .slice f2 f3 f4, .slice f5 f6 f7], .bool true]) (by simp [results, Tryz.results73, go_sem]) rfl (ret_case (cs := [.int .i64 f0, .string f1, .slice f2 f3 f4, .slice f5 f6 f7]) HA.out (by repeat (first | exact Below.refl _ _ | with_reducible refine Below.setCell ?_ (by simp <;> omega) _ | refine Below.alloc ?_ (by first | omega | (simp <;> omega)) _)))
  · have hm : m = q := by rw [← hq, caseNo, if_neg g13]
    subst hm
    have g13' : (k == 13) = false := beq_eq_false_iff_ne.2 g13
    clear hk hq g13
    go_enter Tryz.func73, Tryz.ntmps73
    go_wp2_with fail
    refine (sizeT_any _ _ _ _).mono ?_
    rintro e w1 ⟨rfl, rfl⟩
    go_wp2_with fail
    refine (within_any _ _ _ _).mono ?_
    rintro e w2 ⟨rfl, rfl⟩
    rw [HIN.out]
    go_wp2
    exact bodyPost_ret (v := .tuple #[.agg #[.int .i64 f0, .string f1, .slice f2 f3 f4, .slice f5 f6 f7], .bool true]) (by simp [results, Tryz.results73, go_sem]) rfl (ret_case (cs := [.int .i64 f0, .string f1, .slice f2 f3 f4, .slice f5 f6 f7]) HA.out (by repeat (first | exact Below.refl _ _ | with_reducible refine Below.setCell ?_ (by simp <;> omega) _ | refine Below.alloc ?_ (by first | omega | (simp <;> omega)) _)))
end Go.Proofs.YtcpadaelgdmipaaGreatDoor
namespace Go.Proofs.YtcpadaelgdmipaaGreatDoor
open Go.RowKit

def RetKids (S : Nat → Prop) (L : List Ty) (w : World) (e : Ending) (w' : World) : Prop := ∃ A c, e = .returned (.tuple #[.slice A L.length c, .bool true]) ∧ D.At w' S (rows Ty.ds 4 L) (.slice A L.length c) ∧ Below w.heap.size w w'
set_option maxHeartbeats 4000000 in
set_option maxRecDepth 20000 in
theorem kidTypes_i {S : Nat → Prop} (k m : Int) (s n : ByteArray) (l : List ByteArray) (kids : List Ty) (vA A A' : Option Addr) (N vc c c' : Nat) (w : World) (k0 : Int) (hs : shape (.mk k n l kids) = true) (hn : numFits k l.length m = true) (hSS : ∀ b, w.heap.size ≤ b → S b)
    (hv : D.At w S (rows Ty.ds 4 kids) (.slice A' kids.length c')) (ts : List Ty) (hts : kts k m N kids = some ts) :
    Calls Tryz.prog 88 #[.agg #[.int .i64 k0, .int .i64 m, .string s, .slice vA N vc], .agg #[.int .i64 k, .string n, .slice A l.length c, .slice A' kids.length c']] w (RetKids S ts w) := by
  have HV := Lib.hid hv
  have HSS := Lib.hid hSS
  clear hv hSS
  by_cases h12 : k = 12
  · subst h12
    obtain ⟨x, rfl, -⟩ := fit_one hs (.inl rfl)
    rw [kts_12] at hts
    obtain rfl := Option.some.inj hts
    obtain ⟨q, hq⟩ : ∃ q, min N 8 = q := ⟨_, rfl⟩
    have hq8 : q ≤ 8 := by omega
    have hmin : min (N : Int) 8 = (q : Int) := by omega
    rw [hq]
    have HM := Lib.hid hmin
    clear hts hs hn hq hmin
    go_enter Tryz.func88, Tryz.ntmps88
    go_wp2_with fail
    rw [HM.out]
    refine (repeat_i x A' c' q hq8 _ (HSS.out _ (by simp <;> omega)) (HV.out.below (by repeat (first | exact Below.refl _ _ | with_reducible refine Below.setCell ?_ (by simp <;> omega) _ | refine Below.alloc ?_ (by first | omega | (simp <;> omega)) _)))).mono ?_
    rintro e w1 ⟨B, d, rfl, hat, hb⟩
    have HB := Lib.hid (show Below w.heap.size w w1 from Below.trans (by repeat (first | exact Below.refl _ _ | with_reducible refine Below.setCell ?_ (by simp <;> omega) _ | refine Below.alloc ?_ (by first | omega | (simp <;> omega)) _)) (hb.mono (by simp <;> omega)))
    have HA := Lib.hid hat
    clear hb hat
    go_wp2
    go_ret2
    exact ⟨B, d, by rw [List.length_replicate]; try rfl, by rw [List.length_replicate]; exact HA.out, HB.out⟩
  by_cases h15 : k = 15 ∨ k = 16
  · rw [kts_all h15] at hts
    obtain rfl := Option.some.inj hts
    have g12 : (k == 12) = false := beq_eq_false_iff_ne.2 h12
    have g : (k == 15) = true ∨ ((k == 15) = false ∧ (k == 16) = true) := by rcases h15 with rfl | rfl <;> simp
    clear hs h15 h12 hts hn
    rcases g with g15 | ⟨g15, g16⟩
    all_goals
      go_enter Tryz.func88, Tryz.ntmps88
      go_wp2
      go_ret2
      exact ⟨_, _, rfl, HV.out.below (by repeat (first | exact Below.refl _ _ | with_reducible refine Below.setCell ?_ (by simp <;> omega) _ | refine Below.alloc ?_ (by first | omega | (simp <;> omega)) _)), (by repeat (first | exact Below.refl _ _ | with_reducible refine Below.setCell ?_ (by simp <;> omega) _ | refine Below.alloc ?_ (by first | omega | (simp <;> omega)) _))⟩
  have g12 : (k == 12) = false := beq_eq_false_iff_ne.2 h12
  have g15 : (k == 15) = false := beq_eq_false_iff_ne.2 (by omega)
  have g16 : (k == 16) = false := beq_eq_false_iff_ne.2 (by omega)
  by_cases h1 : k = 13 ∨ k = 14 ∨ k = 17
  · -- the case's type, and what of it comes back
    have hcs : ∃ y, (∀ W, Below w.heap.size w W → Calls Tryz.prog 73 #[.agg #[.int .i64 k, .string n, .slice A l.length c, .slice A' kids.length c'], .int .i64 m] W (RetCase S y W)) ∧ ts = if isU y = true then [] else [y] := by
      by_cases h13 : k = 13
      · subst h13
        obtain ⟨x, rfl, hx⟩ := fit_one hs (.inr rfl)
        have hm := num_2 (.inr (.inl rfl)) hn
        rcases (by omega : m = 0 ∨ m = 1) with rfl | rfl
        · rw [kts_13_0] at hts
          exact ⟨.mk 1 ⟨#[]⟩ [] [], fun W _ => caseType_none n A A' _ c _ c' W, by rw [← Option.some.inj hts]; rfl⟩
        · rw [kts_13_1 hx] at hts
          refine ⟨x, fun W hW => caseType_some 13 1 0 n l [x] A A' c c' W rfl (fun _ => rfl) x rfl (HV.out.below hW), ?_⟩
          rw [← Option.some.inj hts, if_neg (by rw [hx]; decide)]
      · have h14 : k = 14 ∨ k = 17 := by omega
        obtain ⟨h0, x, hx⟩ := case_at hs h14 hn
        rw [kts_case h14 h0 hx] at hts
        exact ⟨x, fun W hW => caseType_some k m m.toNat n l kids A A' c c' W (by rw [caseNo, if_neg h13]; omega) (fun h => absurd h h13) x hx (HV.out.below hW), (Option.some.inj hts).symm⟩
    obtain ⟨y, hcase, hty⟩ := hcs
    have HC := Lib.hid hcase
    have HT := Lib.hid hty
    have g : (k == 13) = true ∨ ((k == 13) = false ∧ (k == 14) = true) ∨ ((k == 13) = false ∧ (k == 14) = false ∧ (k == 17) = true) := by rcases h1 with rfl | rfl | rfl <;> simp
    clear hcase hty hs hn hts h1 h12 h15
    rcases g with g13 | ⟨g13, g14⟩ | ⟨g13, g14, g17⟩
    all_goals
      go_enter Tryz.func88, Tryz.ntmps88
      go_wp2_with fail
      refine (HC.out _ (by repeat (first | exact Below.refl _ _ | with_reducible refine Below.setCell ?_ (by simp <;> omega) _ | refine Below.alloc ?_ (by first | omega | (simp <;> omega)) _))).mono ?_
      rintro e w1 ⟨cs1, rfl, hat, hb⟩
      have HB := Lib.hid (show Below w.heap.size w w1 from Below.trans (by repeat (first | exact Below.refl _ _ | with_reducible refine Below.setCell ?_ (by simp <;> omega) _ | refine Below.alloc ?_ (by first | omega | (simp <;> omega)) _)) (hb.mono (by simp <;> omega)))
      have hsz := HB.out.size
      obtain ⟨yk, yn, yl, ykids⟩ := y
      obtain ⟨f2, f4, f5, f7, rfl, -⟩ := Ty.open_ hat
      have HA := Lib.hid hat
      clear hb hat
      have bK := Box.new w1 40 [.int .i64 yk, .string yn, .slice f2 yl.length f4, .slice f5 ykids.length f7]
      go_wp2_with fail
      refine (isUnit_v yk _ _ _ _ _ _ _ _ _ rfl rfl _).mono ?_
      rintro e w2 ⟨rfl, hb2⟩
      have HB2 := Lib.hid (show Below w.heap.size w w2 from (HB.out.alloc hsz _).trans (hb2.mono (by simp <;> omega)))
      have bK2 := bK.call hb2
      have kK := bK2.cell
      have lK := bK2.lt
      have hs2 := HB2.out.size
      have HA2 := Lib.hid ((HA.out.below ((Below.refl _ _).alloc (Nat.le_refl _) _)).below hb2)
      clear hb2 bK
      cases hu : (yk == 1)
      · have HU := Lib.hid (show ts = [.mk yk yn yl ykids] by rw [HT.out, if_neg (by show ¬ (yk == 1) = true; rw [hu]; decide)])
        clear hu
        go_wp2
        go_ret2
        rw [HU.out]
        exact ⟨_, _, rfl, at_one (HSS.out _ HB2.out.size) (Box.new w2 40 _) (HA2.out.below ((Below.refl _ _).alloc (Nat.le_refl _) _)), HB2.out.alloc hs2 _⟩
      · have HU := Lib.hid (show ts = [] by rw [HT.out, if_pos (show isU (.mk yk yn yl ykids) = true from hu)])
        clear hu
        go_wp2
        go_ret2
        rw [HU.out]
        exact ⟨_, _, rfl, at_nil (Nat.zero_le _), HB2.out⟩
  have g13 : (k == 13) = false := beq_eq_false_iff_ne.2 (by omega)
  have g14 : (k == 14) = false := beq_eq_false_iff_ne.2 (by omega)
  have g17 : (k == 17) = false := beq_eq_false_iff_ne.2 (by omega)
  rw [kts_none (by omega)] at hts
  obtain rfl := Option.some.inj hts
  clear hs h12 h1 h15 hts hn
  go_enter Tryz.func88, Tryz.ntmps88
  go_wp2
  go_ret2
  exact ⟨_, _, rfl, at_nil (Nat.zero_le _), (by repeat (first | exact Below.refl _ _ | with_reducible refine Below.setCell ?_ (by simp <;> omega) _ | refine Below.alloc ?_ (by first | omega | (simp <;> omega)) _))⟩
end Go.Proofs.YtcpadaelgdmipaaGreatDoor
namespace Go.Proofs.YtcpadaelgdmipaaGreatDoor
open Go.RowKit

theorem blocks2 (w : World) (tA tB : TypeId) (cA cB : List Value) : ∃ w0, w0 = (w.alloc (.cells cA.toArray tA)).alloc (.cells cB.toArray tB) ∧ Below w.heap.size w w0 ∧ Box w0 w.heap.size tA cA ∧ Box w0 (w.heap.size + 1) tB cB := by
  refine ⟨_, rfl, ?_⟩
  obtain ⟨h1, h2, h3⟩ := box2 (cA := cA) (cB := cB) (Below.refl _ ((w.alloc (.cells cA.toArray tA)).alloc (.cells cB.toArray tB)))
  exact ⟨h1, h2, h3⟩
/-- A function says whether a value fits a valid type. -/
def FitFn (F : FuncId) (C : World → Prop) (v : Va) : Prop := ∀ (t : Ty), Ty.all shape t = true → ∀ (cs cs' : List Value) (w : World), C w → D.Ats w anyB v.ds cs → D.Ats w anyB t.ds cs' →
  Calls Tryz.prog F #[.agg cs.toArray, .agg cs'.toArray] w fun e w' => e = .returned (.bool (fitV v t)) ∧ Below w.heap.size w w'
theorem text_empty {s : ByteArray} (h : s.toList.isEmpty = false) : ¬ s.toList = [] := by intro e; rw [e] at h; cases h
theorem fit_text_no {k m : Int} {s : ByteArray} {vs : List Va} {n : ByteArray} {l : List ByteArray} {kids : List Ty} (h : (k == 11) = false) (he : s.toList.isEmpty = false) : fitV (.mk k m s vs) (.mk k n l kids) = false := by
  rw [fitV_of (beq_eq_false_iff_ne.1 h), he, Bool.false_and]
theorem fit_text_bad {k m : Int} {s : ByteArray} {vs : List Va} {n : ByteArray} {l : List ByteArray} {kids : List Ty} (h : textOk s = false) : fitV (.mk k m s vs) (.mk k n l kids) = false := by
  rw [fitV_mk]
  show ((k == k) && (numFits k l.length m && (((k == 11) || s.toList.isEmpty) && (textOk s && (match kts k m vs.length kids with | none => false | some ts => (ts.length == vs.length) && fitVs vs ts))))) = false
  rw [h]; simp
theorem fit_num_bad {k m : Int} {s : ByteArray} {vs : List Va} {n : ByteArray} {l : List ByteArray} {kids : List Ty} (h : numFits k l.length m = false) : fitV (.mk k m s vs) (.mk k n l kids) = false := by
  rw [fitV_mk]
  show ((k == k) && (numFits k l.length m && (((k == 11) || s.toList.isEmpty) && (textOk s && (match kts k m vs.length kids with | none => false | some ts => (ts.length == vs.length) && fitVs vs ts))))) = false
  rw [h]; simp
/-- Text and number fit: the kids tell. -/
theorem fit_rest {k m : Int} {s : ByteArray} {vs : List Va} {n : ByteArray} {l : List ByteArray} {kids ts : List Ty} (h1 : numFits k l.length m = true) (h2 : ((k == 11) || s.toList.isEmpty) = true) (h3 : textOk s = true) (h4 : kts k m vs.length kids = some ts) :
    fitV (.mk k m s vs) (.mk k n l kids) = ((ts.length == vs.length) && fitVs vs ts) := by
  rw [fitV_some h4, h1, h2, h3]; simp
set_option maxHeartbeats 8000000 in
set_option maxRecDepth 20000 in
theorem fits_i (v : Va) : FitFn 51 Tabs v := by
  refine Va.ind (fun k m s vs ih => ?_) v
  intro t hall cs cs' w hT hcs hcs'
  obtain ⟨A, c, rfl, hk, hm, hs, hvs⟩ := Va.open_ hcs
  obtain ⟨k', n, l, kids⟩ := t
  obtain ⟨A1, c1, A2, c2, rfl, hk', hn, hl, hkids⟩ := Ty.open_ hcs'
  obtain ⟨-, hln, hlc⟩ := rows_bound hl
  obtain ⟨-, hvn, hvc⟩ := rows_bound hvs
  unfold maxLen at hlc hvc
  have hsh := all_shape hall
  obtain ⟨w0, hw0, B0, bA, bB⟩ := blocks2 w 34 40 [.int .i64 k, .int .i64 m, .string s, .slice A vs.length c] [.int .i64 k', .string n, .slice A1 l.length c1, .slice A2 kids.length c2]
  have kA := bA.cell
  have kB := bB.cell
  have HB0 := Lib.hid B0
  by_cases hkk : k = k'
  · subst hkk
    have hl19 : l.length ≤ 16 ∨ k ≠ 19 := by
      by_cases h : k = 19
      · exact .inl (fit_labels hsh.1 (.inr (.inr (.inr h)))).2
      · exact .inr h
    have HNO := Lib.hid (fun W => numOk_i k m s (.slice A vs.length c) n l (.slice A2 kids.length c2) A1 c1 k W (kind_in hsh.1) hl19 (by omega) ⟨_, _, _, rfl⟩ ⟨_, _, _, rfl⟩)
    cases hnf : numFits k l.length m
    · rw [hnf] at HNO
      have HV := Lib.hid (fit_num_bad (s := s) (vs := vs) (n := n) (kids := kids) hnf)
      clear hcs hcs' hT hk hm hs hvs hk' hn hl hkids ih hall hsh hl19 hnf B0
      change Calls Tryz.prog 51 #[.agg #[.int .i64 k, .int .i64 m, .string s, .slice A vs.length c], .agg #[.int .i64 k, .string n, .slice A1 l.length c1, .slice A2 kids.length c2]] w _
      go_enter Tryz.func51, Tryz.ntmps51
      go_upto_region 1 with fail
      rw [← hw0]
      clear hw0
      go_wp2_with fail
      refine (HNO.out _).mono ?_
      rintro e w1 ⟨rfl, hb1⟩
      have HB1 := Lib.hid (HB0.out.trans (hb1.mono HB0.out.size))
      clear hb1 kA kB
      go_wp2
      go_ret
      exact ⟨ret_eq (by rw [HV.out]; try rfl), HB1.out⟩
    · rw [hnf] at HNO
      obtain ⟨ts, hts, hmem, hts16⟩ := kts_some hsh.1 hnf vs.length
      cases h11 : ((k == 11) || s.toList.isEmpty)
      · rw [Bool.or_eq_false_iff] at h11
        have HV := Lib.hid (fit_text_no (m := m) (vs := vs) (n := n) (l := l) (kids := kids) h11.1 h11.2)
        have h1 := h11.1
        have h1' : (k != 11) = true := by rw [bne, h1]; rfl
        have e1 := text_empty h11.2
        clear hcs hcs' hT hk hm hs hvs hk' hn hl hkids ih hall hsh hl19 hnf hts hmem h11 B0
        change Calls Tryz.prog 51 #[.agg #[.int .i64 k, .int .i64 m, .string s, .slice A vs.length c], .agg #[.int .i64 k, .string n, .slice A1 l.length c1, .slice A2 kids.length c2]] w _
        go_enter Tryz.func51, Tryz.ntmps51
        go_upto_region 1 with fail
        rw [← hw0]
        clear hw0
        go_wp2_with fail
        refine (HNO.out _).mono ?_
        rintro e w1 ⟨rfl, hb1⟩
        have HB1 := Lib.hid (HB0.out.trans (hb1.mono HB0.out.size))
        clear kA kB
        have bA1 := bA.call hb1
        have bB1 := bB.call hb1
        have kA := bA1.cell
        have kB := bB1.cell
        clear hb1
        go_wp2
        go_ret
        exact ⟨ret_eq (by rw [HV.out]; try rfl), HB1.out⟩
      · have hways : s.toList = [] ∨ (¬ s.toList = [] ∧ (k != 11) = false) := by
          cases he : s.toList.isEmpty
          · rw [he, Bool.or_false] at h11
            exact .inr ⟨text_empty he, by rw [bne, h11]; rfl⟩
          · exact .inl (by simpa using he)
        have HTX := Lib.hid (fun W h => textOk_i s W h)
        have HTB := Lib.hid (fun W (h : Below w.heap.size w W) => tabs_below hT h)
        have HKT := Lib.hid (fun W (h : Below w.heap.size w W) => kidTypes_i (S := anyB) k m s n l kids A A1 A2 vs.length c c1 c2 W k hsh.1 hnf (fun _ _ => trivial) (hkids.below h) ts hts)
        have HVS := Lib.hid hvs
        have HIH := Lib.hid (fun x hx y hy => ih x hx y (hsh.2 y (hmem y hy)))
        cases htx : textOk s
        · rw [htx] at HTX
          have HV := Lib.hid (fit_text_bad (k := k) (m := m) (vs := vs) (n := n) (l := l) (kids := kids) htx)
          clear hcs hcs' hT hk hm hs hvs hk' hn hl hkids ih hall hsh hl19 hnf hts hmem h11 htx B0
          change Calls Tryz.prog 51 #[.agg #[.int .i64 k, .int .i64 m, .string s, .slice A vs.length c], .agg #[.int .i64 k, .string n, .slice A1 l.length c1, .slice A2 kids.length c2]] w _
          rcases hways with ge | ⟨ge, g11⟩
          all_goals
            go_enter Tryz.func51, Tryz.ntmps51
            go_upto_region 1 with fail
            rw [← hw0]
            clear hw0
            go_wp2_with fail
            refine (HNO.out _).mono ?_
            rintro e w1 ⟨rfl, hb1⟩
            have HB1 := Lib.hid (HB0.out.trans (hb1.mono HB0.out.size))
            clear kA kB
            have bA1 := bA.call hb1
            have bB1 := bB.call hb1
            have kA := bA1.cell
            have kB := bB1.cell
            clear hb1
            go_wp2_with fail
            refine (HTX.out _ (HTB.out _ HB1.out)).mono ?_
            rintro e w2 ⟨rfl, hb2⟩
            have HB2 := Lib.hid (HB1.out.trans (hb2.mono HB1.out.size))
            clear hb2 kA kB
            go_wp2
            go_ret
            exact ⟨ret_eq (by rw [HV.out]; try rfl), HB2.out⟩
        · rw [htx] at HTX
          have HV := Lib.hid (fit_rest (n := n) (kids := kids) hnf h11 htx hts)
          clear hcs hcs' hT hk hm hs hvs hk' hn hl hkids ih hall hsh hl19 hnf hts hmem h11 htx B0
          change Calls Tryz.prog 51 #[.agg #[.int .i64 k, .int .i64 m, .string s, .slice A vs.length c], .agg #[.int .i64 k, .string n, .slice A1 l.length c1, .slice A2 kids.length c2]] w _
          rcases hways with ge | ⟨ge, g11⟩
          all_goals
            go_enter Tryz.func51, Tryz.ntmps51
            go_upto_region 1 with fail
            rw [← hw0]
            clear hw0
            go_wp2_with fail
            refine (HNO.out _).mono ?_
            rintro e w1 ⟨rfl, hb1⟩
            have HB1 := Lib.hid (HB0.out.trans (hb1.mono HB0.out.size))
            clear kA kB
            have bA1 := bA.call hb1
            have bB1 := bB.call hb1
            have kA := bA1.cell
            have kB := bB1.cell
            clear hb1
            go_wp2_with fail
            refine (HTX.out _ (HTB.out _ HB1.out)).mono ?_
            rintro e w2 ⟨rfl, hb2⟩
            have HB2 := Lib.hid (HB1.out.trans (hb2.mono HB1.out.size))
            clear kA kB
            have bA2 := bA1.call hb2
            have bB2 := bB1.call hb2
            have kA := bA2.cell
            have kB := bB2.cell
            clear hb2
            go_wp2_with fail
            refine (HKT.out _ HB2.out).mono ?_
            rintro e w3 ⟨A5, c5, rfl, hat, hb3⟩
            obtain ⟨-, hn5, hc5⟩ := rows_bound hat
            unfold maxLen at hc5
            have HB3 := Lib.hid (HB2.out.trans (hb3.mono HB2.out.size))
            have HT3 := Lib.hid hat
            clear kA kB
            have bA3 := bA2.call hb3
            have kA := bA3.cell
            clear hb3 hat bA bB bA1 bB1 bA2 bB2 ge
            by_cases hlen : ts.length = vs.length
            · have g5 : ((ts.length : Int) != (vs.length : Int)) = false := by rw [hlen]; simp
              have HL := Lib.hid hlen
              have HV2 := Lib.hid (show fitV (.mk k m s vs) (.mk k n l kids) = fitVs vs ts by rw [HV.out, hlen]; simp)
              clear hlen
              go_wp2
              clear kA bA3
              go_loopw [55] (fun i wr => ∃ q : Nat, q ≤ vs.length ∧ i = .int .i64 q ∧ FitTo vs ts q ∧ Below w3.heap.size w3 wr) (fun i _ => vs.length - (intOf i).toNat)
              case atStart => exact ⟨0, Nat.zero_le _, rfl, FitTo.zero _ _, Below.refl _ _⟩
              case round =>
                obtain ⟨q, hq, rfl, hft, hb⟩ := hrel
                by_cases hlt : q < vs.length
                · have hlt' : q < ts.length := by rw [HL.out]; exact hlt
                  obtain ⟨x, hx⟩ : ∃ x, vs[q]? = some x := ⟨vs[q], List.getElem?_eq_getElem hlt⟩
                  obtain ⟨y, hy⟩ : ∃ y, ts[q]? = some y := ⟨ts[q], List.getElem?_eq_getElem hlt'⟩
                  have i0 : (0 : Int) ≤ (q : Int) := by omega
                  have i1 : (q : Int) < (vs.length : Int) := by omega
                  have i2 : (q : Int) < (ts.length : Int) := by omega
                  have hbw := HB3.out.trans (hb.mono HB3.out.size)
                  obtain ⟨b, off, u0, u1, u2, u3, e, -, hbl, hat, d0, d1, d2, d3⟩ := rows_at4 Va.len (HVS.out.below hbw) hx
                  subst e
                  obtain ⟨f0, f1, f2, f3, f4, f5, exx⟩ := Va.form hat
                  simp only [List.cons.injEq, and_true] at exx
                  obtain ⟨rfl, rfl, rfl, rfl⟩ := exx
                  obtain ⟨b', off', v0, v1, v2, v3, e', -, hbl', hat', e0, e1, e2, e3⟩ := rows_at4 Ty.len (HT3.out.below hb) hy
                  subst e'
                  obtain ⟨g0, g1, g2, g3, g4, g5', g6, g7, eyy⟩ := Ty.form hat'
                  simp only [List.cons.injEq, and_true] at eyy
                  obtain ⟨rfl, rfl, rfl, rfl⟩ := eyy
                  obtain ⟨w5, hw5⟩ : ∃ w5, w5 = wr.alloc (.cells #[.int .i64 f0, .int .i64 f1, .string f2, .slice f3 f4 f5] 34) := ⟨_, rfl⟩
                  have B5 : Below wr.heap.size wr w5 := by rw [hw5]; exact (Below.refl _ _).alloc (Nat.le_refl _) _
                  have bX : Box w5 wr.heap.size 34 [.int .i64 f0, .int .i64 f1, .string f2, .slice f3 f4 f5] := by rw [hw5]; exact Box.new wr _ _
                  have HXY := Lib.hid (fun W (h : Below w5.heap.size w5 W) => HIH.out x (List.mem_of_getElem? hx) y (List.mem_of_getElem? hy) _ _ W (HTB.out W ((hbw.trans (B5.mono hbw.size)).trans (h.mono (Nat.le_trans hbw.size B5.size)))) ((hat.below B5).below h) ((hat'.below B5).below h))
                  have HB5 := Lib.hid (show Below w3.heap.size w3 w5 from hb.trans (B5.mono hb.size))
                  have HN := Lib.hid (And.intro hft (And.intro hx hy))
                  obtain ⟨Z, hZ⟩ : ∃ Z, fitV x y = Z := ⟨_, rfl⟩
                  simp only [hZ] at HXY
                  have HZ := Lib.hid hZ
                  go_upto_region 9 with fail
                  rw [← hw5]
                  replace e0 := cell_regrown ((B5.cell (p := ⟨b', off' + q * 4, none⟩) hbl').trans e0)
                  replace e1 := cell_regrown ((B5.cell (p := ⟨b', off' + q * 4 + 1, none⟩) hbl').trans e1)
                  replace e2 := cell_regrown ((B5.cell (p := ⟨b', off' + q * 4 + 2, none⟩) hbl').trans e2)
                  replace e3 := cell_regrown ((B5.cell (p := ⟨b', off' + q * 4 + 3, none⟩) hbl').trans e3)
                  have x0 := cell_regrown (show w5.cell? ⟨wr.heap.size, 0, none⟩ = some (.int .i64 f0) from bX.cell 0)
                  have x1 := cell_regrown (show w5.cell? ⟨wr.heap.size, 1, none⟩ = some (.int .i64 f1) from bX.cell 1)
                  have x2 := cell_regrown (show w5.cell? ⟨wr.heap.size, 2, none⟩ = some (.string f2) from bX.cell 2)
                  have x3 := cell_regrown (show w5.cell? ⟨wr.heap.size, 3, none⟩ = some (.slice f3 f4 f5) from bX.cell 3)
                  clear hw5 hZ hx hy hft hb hbw hat hat' B5 bX d0 d1 d2 d3
                  refine wp_region_quiet_below (by kernel_rfl) (by kernel_rfl) ?_
                  repeat (first | go_big_quiet_step (with_reducible exact Calls.regrown_of (HXY.out _ (below_regrown _ _ _))) | quiet_step (with_reducible exact Calls.regrown_of (HXY.out _ (below_regrown _ _ _))))
                  refine wpQuiet_nil ?_
                  intro w6 hw6
                  have HB6 := Lib.hid (HB5.out.trans ((below_of_regrown hw6).mono HB5.out.size))
                  clear hw6 e0 e1 e2 e3 x0 x1 x2 x3
                  cases Z
                  · have HF := Lib.hid (HN.out.1.bad HN.out.2.1 HN.out.2.2 HZ.out)
                    go_wp2
                    go_ret
                    exact ⟨ret_eq (by rw [HV2.out, HF.out]; try rfl), HB3.out.trans (HB6.out.mono HB3.out.size)⟩
                  · have HF := Lib.hid (HN.out.1.next HN.out.2.1 HN.out.2.2 HZ.out)
                    go_wp2
                    go_roundw
                    case rel => exact ⟨q + 1, by omega, by go_num, HF.out, HB6.out⟩
                    case measure => simp [intOf]; omega
                · obtain rfl : q = vs.length := by omega
                  have HF := Lib.hid hft.end_
                  have HB6 := Lib.hid hb
                  clear hft hb
                  go_wp2
                  go_ret
                  exact ⟨ret_eq (by rw [HV2.out, HF.out]; try rfl), HB3.out.trans (HB6.out.mono HB3.out.size)⟩
            · have g5 : ((ts.length : Int) != (vs.length : Int)) = true := by rw [bne_iff_ne]; omega
              have HV2 := Lib.hid (show fitV (.mk k m s vs) (.mk k n l kids) = false by rw [HV.out, beq_eq_false_iff_ne.2 hlen, Bool.false_and])
              clear hlen
              go_wp2
              go_ret
              exact ⟨ret_eq (by rw [HV2.out]; try rfl), HB3.out⟩
  · have HV := Lib.hid (fitV_kind (m' := m) (s := s) (vs := vs) (n := n) (l := l) (kids := kids) hkk)
    have g1 : (k == k') = false := beq_eq_false_iff_ne.2 hkk
    have g1' : (k != k') = true := by rw [bne, g1]; rfl
    clear hcs hcs' hT hk hm hs hvs hk' hn hl hkids ih hall hsh hkk B0
    change Calls Tryz.prog 51 #[.agg #[.int .i64 k, .int .i64 m, .string s, .slice A vs.length c], .agg #[.int .i64 k', .string n, .slice A1 l.length c1, .slice A2 kids.length c2]] w _
    go_enter Tryz.func51, Tryz.ntmps51
    go_upto_region 1 with fail
    rw [← hw0]
    clear hw0
    go_wp2
    go_ret
    exact ⟨ret_eq (by rw [HV.out]; try rfl), HB0.out⟩
end Go.Proofs.YtcpadaelgdmipaaGreatDoor
