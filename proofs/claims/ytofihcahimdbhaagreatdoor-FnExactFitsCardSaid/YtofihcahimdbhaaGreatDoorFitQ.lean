/- What a valid type says of the kids of a value that fits it. No program in sight. -/
import Derived.Test.YtofihcahimdbhaaGreatDoorFitP
namespace Go.Proofs.YtofihcahimdbhaaGreatDoor
open Go.RowKit

theorem all_shape {k : Int} {n : ByteArray} {l : List ByteArray} {kids : List Ty} (h : Ty.all shape (.mk k n l kids) = true) : shape (.mk k n l kids) = true ∧ ∀ x ∈ kids, Ty.all shape x = true := by
  rw [Ty.all_mk, Bool.and_eq_true] at h
  exact ⟨h.1, fun x hx => List.all_eq_true.1 h.2 x hx⟩
theorem shape_fit {k : Int} {n : ByteArray} {l : List ByteArray} {kids : List Ty} (h : shape (.mk k n l kids) = true) : kidsFit k l.length kids = true ∧ (isLabelled k = true → labelsOk l = true) := by
  rw [shape_mk, Bool.and_eq_true] at h
  refine ⟨h.2, fun hl => ?_⟩
  have := h.1
  unfold headOk at this
  simp only [Bool.and_eq_true] at this
  have h4 := this.2.2.2
  rw [hl] at h4
  simpa using h4
theorem labels_len {l : List ByteArray} (h : labelsOk l = true) : 1 ≤ l.length ∧ l.length ≤ 16 := by
  unfold labelsOk at h
  simp only [Bool.and_eq_true, decide_eq_true_eq] at h
  exact h.1
theorem fit_labels {k : Int} {n : ByteArray} {l : List ByteArray} {kids : List Ty} (h : shape (.mk k n l kids) = true) (hk : k = 16 ∨ k = 17 ∨ k = 18 ∨ k = 19) : 1 ≤ l.length ∧ l.length ≤ 16 :=
  labels_len ((shape_fit h).2 (by rcases hk with rfl | rfl | rfl | rfl <;> decide))
theorem fit_len {k : Int} {n : ByteArray} {l : List ByteArray} {kids : List Ty} (h : shape (.mk k n l kids) = true) (hk : k = 15 ∨ k = 16) : kids.length ≤ 16 := by
  obtain ⟨h1, h2⟩ := shape_fit h
  rcases hk with rfl | rfl
  · rw [kf4 rfl] at h1
    simp only [Bool.and_eq_true, decide_eq_true_eq] at h1
    omega
  · rw [kf5 rfl] at h1
    simp only [Bool.and_eq_true, beq_iff_eq] at h1
    have := labels_len (h2 (by decide))
    omega
theorem fit_case_len {k : Int} {n : ByteArray} {l : List ByteArray} {kids : List Ty} (h : shape (.mk k n l kids) = true) (hk : k = 14 ∨ k = 17) : 0 < kids.length ∧ kids.length ≤ 16 ∧ (k = 14 → kids.length = 2) ∧ (k = 17 → kids.length = l.length) := by
  obtain ⟨h1, h2⟩ := shape_fit h
  rcases hk with rfl | rfl
  · rw [kf3 rfl, beq_iff_eq] at h1
    omega
  · rw [kf6 rfl, beq_iff_eq] at h1
    have := labels_len (h2 (by decide))
    omega
theorem fit_one {k : Int} {n : ByteArray} {l : List ByteArray} {kids : List Ty} (h : shape (.mk k n l kids) = true) (hk : k = 12 ∨ k = 13) : ∃ x, kids = [x] ∧ isU x = false := by
  have h1 := (shape_fit h).1
  rw [kf1 hk] at h1
  simp only [Bool.and_eq_true, beq_iff_eq, Bool.not_eq_true'] at h1
  obtain ⟨a, b⟩ := h1
  match kids, a with
  | [x], _ => exact ⟨x, rfl, by simpa using b⟩
theorem kts_12 {m : Int} {c : Nat} {x : Ty} : kts 12 m c [x] = some (List.replicate (min c 8) x) := by
  show some (List.replicate (min c 8) [x]).flatten = _
  rw [rep_flat]
theorem kts_all {k m : Int} {c : Nat} {kids : List Ty} (h : k = 15 ∨ k = 16) : kts k m c kids = some kids := by rcases h with rfl | rfl <;> rfl
theorem kts_13_0 {c : Nat} {kids : List Ty} : kts 13 0 c kids = some [] := rfl
theorem kts_13_1 {c : Nat} {x : Ty} (hx : isU x = false) : kts 13 1 c [x] = some [x] := by
  show caseT [x] (1 - 1) = _
  simp [caseT, hx]
theorem kts_case {k m : Int} {c : Nat} {x : Ty} {kids : List Ty} (h : k = 14 ∨ k = 17) (h0 : 0 ≤ m) (hx : kids[m.toNat]? = some x) : kts k m c kids = some (if isU x = true then [] else [x]) := by
  have hlt : m.toNat < kids.length := (List.getElem?_eq_some_iff.1 hx).1
  have : kts k m c kids = caseT kids m := by rcases h with rfl | rfl <;> rfl
  rw [this, caseT, if_pos ⟨h0, by omega⟩, hx]
  simp only
  split <;> rfl
theorem kts_none {k m : Int} {c : Nat} {kids : List Ty} (h : ¬ (k = 12 ∨ k = 13 ∨ k = 14 ∨ k = 15 ∨ k = 16 ∨ k = 17)) : kts k m c kids = some [] := by
  unfold kts
  rw [if_neg (by omega), if_neg (by omega), if_neg (by omega), if_neg (by omega)]
theorem num_2 {k : Int} {nl : Nat} {m : Int} (hk : k = 2 ∨ k = 13 ∨ k = 14) (h : numFits k nl m = true) : 0 ≤ m ∧ m ≤ 1 := by
  have : numFits k nl m = inR 0 m 1 := by unfold numFits; rw [if_pos hk]
  rw [this, inR_iff] at h
  exact h
theorem num_17 {k : Int} {nl : Nat} {m : Int} (hk : k = 17 ∨ k = 18) (h : numFits k nl m = true) : 0 ≤ m ∧ m ≤ (nl : Int) - 1 := by
  have : numFits k nl m = inR 0 m ((nl : Int) - 1) := by unfold numFits; rw [if_neg (by omega), if_neg (by omega), if_pos hk]
  rw [this, inR_iff] at h
  exact h
/-- The case that a number says. -/
theorem case_at {k m : Int} {n : ByteArray} {l : List ByteArray} {kids : List Ty} (h : shape (.mk k n l kids) = true) (hk : k = 14 ∨ k = 17) (hn : numFits k l.length m = true) : 0 ≤ m ∧ ∃ x, kids[m.toNat]? = some x := by
  have hl := fit_case_len h hk
  have hm : 0 ≤ m ∧ m.toNat < kids.length := by
    rcases hk with rfl | rfl
    · have := num_2 (.inr (.inr rfl)) hn; have := hl.2.2.1 rfl; omega
    · have := num_17 (.inl rfl) hn; have := hl.2.2.2 rfl; omega
  exact ⟨hm.1, _, List.getElem?_eq_getElem hm.2⟩
/-- The kids' types are there, few, and valid parts. -/
theorem kts_some {k m : Int} {n : ByteArray} {l : List ByteArray} {kids : List Ty} (h : shape (.mk k n l kids) = true) (hn : numFits k l.length m = true) (c : Nat) : ∃ ts, kts k m c kids = some ts ∧ (∀ x ∈ ts, x ∈ kids) ∧ ts.length ≤ 16 := by
  by_cases h12 : k = 12
  · subst h12
    obtain ⟨x, rfl, -⟩ := fit_one h (.inl rfl)
    refine ⟨_, kts_12, fun y hy => ?_, by rw [List.length_replicate]; omega⟩
    rw [(List.mem_replicate.1 hy).2]
    simp
  by_cases h15 : k = 15 ∨ k = 16
  · exact ⟨_, kts_all h15, (fun y hy => hy), fit_len h h15⟩
  by_cases h13 : k = 13
  · subst h13
    obtain ⟨x, rfl, hx⟩ := fit_one h (.inr rfl)
    have hm := num_2 (.inr (.inl rfl)) hn
    rcases (by omega : m = 0 ∨ m = 1) with rfl | rfl
    · exact ⟨_, kts_13_0, (fun y hy => by cases hy), by simp⟩
    · exact ⟨_, kts_13_1 hx, (fun y hy => hy), by simp⟩
  by_cases h14 : k = 14 ∨ k = 17
  · obtain ⟨h0, x, hx⟩ := case_at h h14 hn
    refine ⟨_, kts_case h14 h0 hx, fun y hy => ?_, by split <;> simp⟩
    split at hy
    · cases hy
    · rw [List.mem_singleton.1 hy]
      exact List.mem_of_getElem? hx
  exact ⟨_, kts_none (by omega), (fun y hy => by cases hy), by simp⟩
theorem fitV_some {k m : Int} {s : ByteArray} {vs : List Va} {n : ByteArray} {l : List ByteArray} {kids ts : List Ty} (h : kts k m vs.length kids = some ts) :
    fitV (.mk k m s vs) (.mk k n l kids) = (numFits k l.length m && (((k == 11) || s.toList.isEmpty) && (textOk s && ((ts.length == vs.length) && fitVs vs ts)))) := by
  rw [fitV_mk]
  show ((k == k) && (numFits k l.length m && (((k == 11) || s.toList.isEmpty) && (textOk s && (match kts k m vs.length kids with | none => false | some ts => (ts.length == vs.length) && fitVs vs ts))))) = _
  rw [h, BEq.rfl, Bool.true_and]
/-- What it says that a value fits. -/
theorem fit_open {k m : Int} {s : ByteArray} {vs : List Va} {k' : Int} {n : ByteArray} {l : List ByteArray} {kids : List Ty} (hs : shape (.mk k' n l kids) = true) (h : fitV (.mk k m s vs) (.mk k' n l kids) = true) :
    k = k' ∧ numFits k l.length m = true ∧ textOk s = true ∧ ∃ ts, kts k m vs.length kids = some ts ∧ (∀ x ∈ ts, x ∈ kids) ∧ ts.length = vs.length ∧ ts.length ≤ 16 ∧ fitVs vs ts = true := by
  have hk : k = k' := by
    apply Decidable.byContradiction
    intro hne
    rw [fitV_kind hne] at h
    cases h
  subst hk
  have hn : numFits k l.length m = true := by
    rw [fitV_mk] at h
    simp only [Bool.and_eq_true] at h
    exact h.2.1
  obtain ⟨ts, h1, h2, h3⟩ := kts_some hs hn vs.length
  rw [fitV_some h1] at h
  simp only [Bool.and_eq_true, beq_iff_eq] at h
  exact ⟨rfl, hn, h.2.2.1, ts, h1, h2, h.2.2.2.1, h3, h.2.2.2.2⟩
theorem fitVs_at {vs : List Va} {ts : List Ty} (h : fitVs vs ts = true) {i : Nat} {v : Va} {t : Ty} (hv : vs[i]? = some v) (ht : ts[i]? = some t) : fitV v t = true := by
  induction vs generalizing ts i with
  | nil => simp at hv
  | cons x r ih =>
    cases ts with
    | nil => simp at ht
    | cons y q =>
      rw [fitVs_cons, Bool.and_eq_true] at h
      cases i with
      | zero => simp at hv ht; subst hv ht; exact h.1
      | succ i => exact ih h.2 (by simpa using hv) (by simpa using ht)
end Go.Proofs.YtofihcahimdbhaaGreatDoor
