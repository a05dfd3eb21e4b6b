/- The text form of a type, in plain words; how long it is. No program in sight. A valid part's form: what its kind says of its name, its labels, its kids. No program in sight. -/
import Derived.Test.YtcpadaelgdmipaaGreatDoorTyPlain
import Derived.Lib.Join
namespace Go.Proofs.YtcpadaelgdmipaaGreatDoor
open Go.RowKit

/-- The kinds' words, in order. -/
def kwords : List ByteArray := [⟨#[]⟩, ⟨#[117, 110, 105, 116]⟩, ⟨#[98, 111, 111, 108]⟩, ⟨#[117, 56]⟩, ⟨#[115, 56]⟩, ⟨#[117, 49, 54]⟩, ⟨#[115, 49, 54]⟩, ⟨#[117, 51, 50]⟩, ⟨#[115, 51, 50]⟩, ⟨#[115, 54, 52]⟩, ⟨#[99, 104, 97, 114]⟩, ⟨#[116, 101, 120, 116]⟩,
  ⟨#[108, 105, 115, 116]⟩, ⟨#[111, 112, 116, 105, 111, 110]⟩, ⟨#[114, 101, 115, 117, 108, 116]⟩, ⟨#[116, 117, 112, 108, 101]⟩, ⟨#[114, 101, 99, 111, 114, 100]⟩, ⟨#[118, 97, 114, 105, 97, 110, 116]⟩, ⟨#[101, 110, 117, 109]⟩, ⟨#[102, 108, 97, 103, 115]⟩,
  ⟨#[111, 119, 110]⟩, ⟨#[98, 111, 114, 114, 111, 119]⟩, ⟨#[115, 116, 114, 101, 97, 109]⟩, ⟨#[102, 117, 116, 117, 114, 101]⟩]
def kword (k : Int) : ByteArray := kwords[k.toNat]?.getD ⟨#[]⟩
theorem kwords_small : ∀ s ∈ kwords, s.size ≤ 7 := by decide
theorem kword_small (k : Int) : (kword k).size ≤ 7 := by
  unfold kword
  cases h : kwords[k.toNat]? with
  | none => simp [ByteArray.size]
  | some s => exact kwords_small s (List.mem_of_getElem? h)
theorem kword_at {k : Int} (h : k < 24) : kwords[k.toNat]? = some (kword k) := by
  have : k.toNat < kwords.length := by simp [kwords]; omega
  unfold kword
  rw [List.getElem?_eq_getElem this]; rfl
/-- Labels, each with what belongs to it. -/
def labs : List ByteArray → List (List UInt8) → List (List UInt8)
  | [], _ => []
  | a :: r, ks => (a.data.toList ++ ks.headD []) :: labs r ks.tail
mutual
def Ty.text : Ty → List UInt8
  | .mk k n l kids => (kword k).data.toList ++ (if isNamed k = true then 60 :: (n.data.toList ++ [62]) else if isLabelled k = true then 123 :: (Lib.join (labs l (Ty.colons kids)) [44] ++ [125])
      else if 11 < k then 60 :: (Lib.join (Ty.texts kids) [44] ++ [62]) else [])
def Ty.texts : List Ty → List (List UInt8)
  | [] => []
  | x :: r => Ty.text x :: Ty.texts r
def Ty.colons : List Ty → List (List UInt8)
  | [] => []
  | x :: r => (if isU x = true then [] else 58 :: Ty.text x) :: Ty.colons r
end
theorem Ty.texts_eq (l : List Ty) : Ty.texts l = l.map Ty.text := by
  induction l with
  | nil => rfl
  | cons x r ih => simp only [Ty.texts, List.map_cons, ih]
def colon (x : Ty) : List UInt8 := if isU x = true then [] else 58 :: x.text
theorem Ty.colons_eq (l : List Ty) : Ty.colons l = l.map colon := by
  induction l with
  | nil => rfl
  | cons x r ih => simp only [Ty.colons, List.map_cons, ih]; rfl
theorem Ty.text_mk (k : Int) (n : ByteArray) (l : List ByteArray) (kids : List Ty) : Ty.text (.mk k n l kids) = (kword k).data.toList ++ (if isNamed k = true then 60 :: (n.data.toList ++ [62]) else if isLabelled k = true then 123 :: (Lib.join (labs l (kids.map colon)) [44] ++ [125])
      else if 11 < k then 60 :: (Lib.join (kids.map Ty.text) [44] ++ [62]) else []) := by
  rw [← Ty.colons_eq, ← Ty.texts_eq]; rfl
theorem labs_length (l : List ByteArray) (ks : List (List UInt8)) : (labs l ks).length = l.length := by
  induction l generalizing ks with
  | nil => rfl
  | cons a r ih => simp [labs, ih]
theorem labs_at {l : List ByteArray} {ks : List (List UInt8)} {i : Nat} {a : ByteArray} (h : l[i]? = some a) : (labs l ks)[i]? = some (a.data.toList ++ ks[i]?.getD []) := by
  induction l generalizing ks i with
  | nil => simp at h
  | cons b r ih =>
    cases i with
    | zero => simp at h; subst h; cases ks <;> simp [labs]
    | succ i =>
      have := ih (ks := ks.tail) (by simpa using h)
      simp only [labs, List.getElem?_cons_succ, this]
      cases ks <;> simp
/-- How long. -/
def lenS (ls : List (List UInt8)) : Nat := ls.foldr (fun x n => x.length + n) 0
theorem join_len (sep : UInt8) (ls : List (List UInt8)) : (Lib.join ls [sep]).length ≤ lenS ls + ls.length := by
  cases ls with
  | nil => simp [Lib.join_nil]
  | cons x r =>
    rw [Lib.join_cons, List.length_append]
    have : (Lib.joinTail [sep] r).length = lenS r + r.length := by
      induction r with
      | nil => rfl
      | cons y s ih => 
        simp only [Lib.joinTail, List.map_cons, List.flatten_cons, List.length_append, List.length_cons, lenS, List.foldr_cons, List.length_nil] at ih ⊢
        omega
    rw [this]
    simp only [lenS, List.foldr_cons, List.length_cons]
    omega
theorem labs_len (l : List ByteArray) (ks : List (List UInt8)) : lenS (labs l ks) ≤ D.totals (l.flatMap strD) + lenS ks := by
  induction l generalizing ks with
  | nil => simp [labs, lenS]
  | cons a r ih =>
    have h := ih ks.tail
    have e : lenS ks = (ks.headD []).length + lenS ks.tail := by cases ks <;> simp [lenS]
    have e2 : D.totals ((a :: r).flatMap strD) = a.size + D.totals (r.flatMap strD) := by simp [strD, D.totals, D.total]
    have e3 : lenS (labs (a :: r) ks) = (a.data.toList.length + (ks.headD []).length) + lenS (labs r ks.tail) := by simp [labs, lenS]
    have e4 : a.data.toList.length = a.size := by simp
    omega
theorem len_map_le {α : Type} (f : α → List UInt8) (g : α → Nat) (l : List α) (c : Nat) (h : ∀ x ∈ l, (f x).length ≤ 30 * g x + c) : lenS (l.map f) ≤ 30 * (l.foldr (fun x n => g x + n) 0) + c * l.length := by
  induction l with
  | nil => simp [lenS]
  | cons x r ih =>
    have h1 := h x (by simp)
    have h2 := ih (fun y hy => h y (by simp [hy]))
    have e : lenS ((x :: r).map f) = (f x).length + lenS (r.map f) := by simp [lenS]
    simp only [List.foldr_cons, List.length_cons, Nat.mul_add]
    omega
theorem totals_fold (l : List Ty) : l.foldr (fun x n => D.totals x.ds + n) 0 = D.totals (l.flatMap Ty.ds) := by
  induction l with
  | nil => simp [D.totals]
  | cons x r ih => rw [List.flatMap_cons, D.totals_append, List.foldr_cons, ih]
theorem Ty.text_len (x : Ty) : x.text.length ≤ 30 * D.totals x.ds + 10 := by
  induction x using Ty.ind with
  | h k n l kids ih =>
    have hk := kword_small k
    have ht : D.totals (Ty.ds (.mk k n l kids)) = n.size + (strs l).total + (rows Ty.ds 4 kids).total := by simp [Ty.ds_eq, D.totals, D.total]; omega
    rw [ht, strs, rows_total, rows_total]
    rw [Ty.text_mk, List.length_append]
    have e1 : (kword k).data.toList.length = (kword k).size := by simp
    have e2 : n.data.toList.length = n.size := by simp
    rw [e1]
    split
    · rw [List.length_cons, List.length_append, e2]; simp; omega
    · split
      · have h1 := join_len 44 (labs l (kids.map colon))
        rw [labs_length] at h1
        have h2 := labs_len l (kids.map colon)
        have h3 := len_map_le colon (fun x => D.totals x.ds) kids 11 (fun x hx => by
          have := ih x hx
          unfold colon
          split
          · simp
          · rw [List.length_cons]; omega)
        rw [totals_fold] at h3
        rw [List.length_cons, List.length_append]; simp; omega
      · split
        · have h1 := join_len 44 (kids.map Ty.text)
          rw [List.length_map] at h1
          have h3 := len_map_le Ty.text (fun x => D.totals x.ds) kids 10 ih
          rw [totals_fold] at h3
          rw [List.length_cons, List.length_append]; simp; omega
        · simp; omega
def tyT (x : Ty) : ByteArray := ⟨x.text.toArray⟩
theorem tyT_list (x : Ty) : (tyT x).data.toList = x.text := by simp [tyT]
theorem tyT_size (x : Ty) : (tyT x).size = x.text.length := by simp [tyT, ByteArray.size]
theorem ba_of {s : ByteArray} {l : List UInt8} (h : s.data.toList = l) : s = ⟨l.toArray⟩ := ByteArray.ext (by rw [← h])
theorem ba_size (s : ByteArray) : s.size = s.data.toList.length := by simp
/-- A join as far as k. -/
theorem join_next {ls : List (List UInt8)} {k : Nat} {y : List UInt8} (h : ls[k]? = some y) : Lib.join (ls.take (k + 1)) [44] = if k = 0 then y else Lib.join (ls.take k) [44] ++ (44 :: y) := by
  cases ls with
  | nil => simp at h
  | cons x r =>
    cases k with
    | zero => simp at h; subst h; simp [Lib.join_one]
    | succ k =>
      rw [if_neg (by omega), List.take_succ_cons, List.take_succ_cons, Lib.join_cons, Lib.join_cons, Lib.joinTail_take_succ _ _ _ y (by simpa using h)]
      simp
theorem join_take_len (ls : List (List UInt8)) (k : Nat) : (Lib.join (ls.take k) [44]).length ≤ (Lib.join ls [44]).length := by
  cases ls with
  | nil => simp
  | cons x r =>
    cases k with
    | zero => simp [Lib.join_nil]
    | succ k =>
      rw [List.take_succ_cons, Lib.join_cons, Lib.join_cons, List.length_append, List.length_append]
      have := Lib.joinTail_take_le [44] r k
      omega
end Go.Proofs.YtcpadaelgdmipaaGreatDoor
namespace Go.Proofs.YtcpadaelgdmipaaGreatDoor
open Go.RowKit

theorem shape_open {k : Int} {n : ByteArray} {l : List ByteArray} {kids : List Ty} (h : shape (.mk k n l kids) = true) :
    (isNamed k = true ∧ isLabelled k = false ∧ n.toList ≠ [] ∧ nameOk n = true ∧ l = [] ∧ kids = [] ∧ 20 ≤ k ∧ k ≤ 21) ∨
    (isNamed k = false ∧ isLabelled k = true ∧ n = ⟨#[]⟩ ∧ 0 < l.length ∧ l.length ≤ 16 ∧ (kids = [] ∨ kids.length = l.length) ∧ 16 ≤ k ∧ k ≤ 19) ∨
    (isNamed k = false ∧ isLabelled k = false ∧ n = ⟨#[]⟩ ∧ l = [] ∧ 0 < kids.length ∧ 11 < k ∧ k ≠ 20 ∧ k ≠ 21 ∧ ¬ (16 ≤ k ∧ k ≤ 19) ∧ k ≤ 23) ∨
    (isNamed k = false ∧ isLabelled k = false ∧ n = ⟨#[]⟩ ∧ l = [] ∧ kids = [] ∧ 1 ≤ k ∧ k ≤ 11) := by
  unfold shape at h
  simp only [Bool.and_eq_true] at h
  obtain ⟨h1, h2, h3, h4, h5⟩ := h
  have hN : isNamed k = true ↔ (k = 20 ∨ k = 21) := by unfold isNamed; simp
  have hL : isLabelled k = true ↔ (16 ≤ k ∧ k ≤ 19) := by unfold isLabelled inR; simp
  have nempty : n.toList.isEmpty = true → n = ⟨#[]⟩ := by
    intro e
    rw [List.isEmpty_iff, ByteArray.toList_eq] at e
    exact ByteArray.ext (Array.toList_inj.1 e)
  have kfit : kidsFit k l.length kids = true := h5
  unfold kidsFit at kfit
  by_cases c1 : k = 20 ∨ k = 21
  · have n1 := hN.2 c1
    have l1 : isLabelled k = false := by rw [← Bool.not_eq_true, hL]; omega
    rw [n1] at h1 h2
    rw [l1] at h3
    left
    rw [if_neg (by omega), if_neg (by omega), if_neg (by omega), if_neg (by omega), if_neg (by omega), if_neg (by omega)] at kfit
    simp only [Bool.and_eq_true, beq_iff_eq] at kfit
    refine ⟨n1, l1, ?_, by simpa using h2, ?_, List.eq_nil_of_length_eq_zero kfit.2, by omega, by omega⟩
    · intro e
      rw [e] at h1
      simp at h1
    · simp only [beq_iff_eq] at h3
      have := h3.symm
      rw [decide_eq_false_iff_not] at this
      exact List.eq_nil_of_length_eq_zero (by omega)
  · have n1 : isNamed k = false := by rw [← Bool.not_eq_true, hN]; exact c1
    rw [n1] at h1
    have hn : n = ⟨#[]⟩ := nempty (by simpa using h1)
    right
    by_cases c2 : 16 ≤ k ∧ k ≤ 19
    · have l1 := hL.2 c2
      rw [l1] at h3 h4
      left
      have hl : 0 < l.length := by simp only [beq_iff_eq] at h3; exact of_decide_eq_true h3.symm
      refine ⟨n1, l1, hn, hl, ?_, ?_, c2.1, c2.2⟩
      · have : labelsOk l = true := by simpa using h4
        unfold labelsOk at this
        simp only [Bool.and_eq_true, decide_eq_true_eq] at this
        exact this.1.2
      · rw [if_neg (by omega), if_neg (by omega), if_neg (by omega), if_neg (by omega)] at kfit
        by_cases c3 : k = 16
        · rw [if_pos c3] at kfit
          simp only [Bool.and_eq_true, beq_iff_eq] at kfit
          exact .inr kfit.1
        · rw [if_neg c3] at kfit
          by_cases c4 : k = 17
          · rw [if_pos c4] at kfit
            exact .inr (by simpa using kfit)
          · rw [if_neg c4] at kfit
            simp only [Bool.and_eq_true, beq_iff_eq] at kfit
            exact .inl (List.eq_nil_of_length_eq_zero kfit.2)
    · have l1 : isLabelled k = false := by rw [← Bool.not_eq_true, hL]; exact c2
      rw [l1] at h3
      have hl : l = [] := by
        simp only [beq_iff_eq] at h3
        have := h3.symm
        rw [decide_eq_false_iff_not] at this
        exact List.eq_nil_of_length_eq_zero (by omega)
      right
      by_cases c3 : 11 < k ∧ k ≤ 23
      · left
        refine ⟨n1, l1, hn, hl, ?_, c3.1, by omega, by omega, c2, c3.2⟩
        by_cases d1 : k = 12 ∨ k = 13
        · rw [if_pos d1] at kfit; simp only [Bool.and_eq_true, beq_iff_eq] at kfit; omega
        · rw [if_neg d1] at kfit
          by_cases d2 : k = 22 ∨ k = 23
          · rw [if_pos d2] at kfit; simp only [Bool.and_eq_true, beq_iff_eq] at kfit; omega
          · rw [if_neg d2] at kfit
            by_cases d3 : k = 14
            · rw [if_pos d3] at kfit; simp only [beq_iff_eq] at kfit; omega
            · rw [if_neg d3, if_pos (by omega)] at kfit
              simp only [Bool.and_eq_true, decide_eq_true_eq] at kfit; omega
      · right
        rw [if_neg (by omega), if_neg (by omega), if_neg (by omega), if_neg (by omega), if_neg (by omega), if_neg (by omega)] at kfit
        simp only [Bool.and_eq_true, beq_iff_eq] at kfit
        have hr : 1 ≤ k ∧ k ≤ 23 := by have := kfit.1; unfold inR at this; simpa using this
        exact ⟨n1, l1, hn, hl, List.eq_nil_of_length_eq_zero kfit.2, by omega, by omega⟩
theorem all_kids {q : Ty → Bool} {k : Int} {n : ByteArray} {l : List ByteArray} {kids : List Ty} (h : Ty.all q (.mk k n l kids) = true) : q (.mk k n l kids) = true ∧ ∀ x ∈ kids, Ty.all q x = true := by
  rw [Ty.all_mk, Bool.and_eq_true] at h
  exact ⟨h.1, fun x hx => List.all_eq_true.1 h.2 x hx⟩
theorem shape_kind {k : Int} {n : ByteArray} {l : List ByteArray} {kids : List Ty} (h : shape (.mk k n l kids) = true) : 1 ≤ k ∧ k ≤ 23 := by
  rcases shape_open h with ⟨-, -, -, -, -, -, a, b⟩ | ⟨-, -, -, -, -, -, a, b⟩ | ⟨-, -, -, -, -, a, -, -, -, b⟩ | ⟨-, -, -, -, -, a, b⟩ <;> omega
end Go.Proofs.YtcpadaelgdmipaaGreatDoor
