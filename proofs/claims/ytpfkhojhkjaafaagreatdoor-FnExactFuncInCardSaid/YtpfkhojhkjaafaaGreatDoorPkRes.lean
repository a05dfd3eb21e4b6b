/- The text form of a type, in plain words; how long it is. No program in sight. A valid part's form: what its kind says of its name, its labels, its kids. No program in sight. The names of a type's handles: by the reference and by the program. The names that a function's type holds, all known: by the reference. The names that a function's type holds, all known: the reference's walk. The names of a type's handles: by the program; both functions whole. The names that a function's type holds: by the program. -/
import Derived.Test.YtpfkhojhkjaafaaGreatDoorTyPlain
import Derived.Lib.Join
import Derived.Test.YtpfkhojhkjaafaaGreatDoorPkR0
import Derived.Test.YtpfkhojhkjaafaaGreatDoorTyKids
import Derived.Test.YtpfkhojhkjaafaaGreatDoorTyOkS
import Derived.Test.YtpfkhojhkjaafaaGreatDoorTyOkI
import Derived.Test.YtpfkhojhkjaafaaGreatDoorPkFn
import Derived.Deep.QuietTactic
import Derived.BigQuiet
import Derived.Test.YtpfkhojhkjaafaaGreatDoorAppS
namespace Go.Proofs.YtpfkhojhkjaafaaGreatDoor
open Go.RowKit

/-- The kinds' words, in order. -/
def kwords : List ByteArray := [⟨#[]⟩, ⟨#[117, 110, 105, 116]⟩, ⟨#[98, 111, 111, 108]⟩, ⟨#[117, 56]⟩, ⟨#[115, 56]⟩, ⟨#[117, 49, 54]⟩, ⟨#[115, 49, 54]⟩, ⟨#[117, 51, 50]⟩, ⟨#[115, 51, 50]⟩, ⟨#[115, 54, 52]⟩, ⟨#[99, 104, 97, 114]⟩, ⟨#[116, 101, 120, 116]⟩,
  ⟨#[108, 105, 115, 116]⟩, ⟨#[111, 112, 116, 105, 111, 110]⟩, ⟨#[114, 101, 115, 117, 108, 116]⟩, ⟨#[116, 117, 112, 108, 101]⟩, ⟨#[114, 101, 99, 111, 114, 100]⟩, ⟨#[118, 97, 114, 105, 97, 110, 116]⟩, ⟨#[101, 110, 117, 109]⟩, ⟨#[102, 108, 97, 103, 115]⟩,
  ⟨#[111, 119, 110]⟩, ⟨#[98, 111, 114, 114, 111, 119]⟩, ⟨#[115, 116, 114, 101, 97, 109]⟩, ⟨#[102, 117, 116, 117, 114, 101]⟩]
def kword (k : Int) : ByteArray := kwords[k.toNat]?.getD ⟨#[]⟩
theorem kwords_small : ∀ s ∈ kwords, s.size ≤ 7 := by decide
theorem kword_small (k : Int) : (kword k).size ≤ 7 := by
  unfold kword
  cases h : kwords[k.toNat]? with
  | none => simp [ByteArray.size]
  | some s => exact kwords_small s (List.mem_of_getElem? h)
theorem kword_at {k : Int} (h : k < 24) : kwords[k.toNat]? = some (kword k) := by
  have : k.toNat < kwords.length := by simp [kwords]; omega
  unfold kword
  rw [List.getElem?_eq_getElem this]; rfl
/-- Labels, each with what belongs to it. -/
def labs : List ByteArray → List (List UInt8) → List (List UInt8)
  | [], _ => []
  | a :: r, ks => (a.data.toList ++ ks.headD []) :: labs r ks.tail
mutual
def Ty.text : Ty → List UInt8
  | .mk k n l kids => (kword k).data.toList ++ (if isNamed k = true then 60 :: (n.data.toList ++ [62]) else if isLabelled k = true then 123 :: (Lib.join (labs l (Ty.colons kids)) [44] ++ [125])
      else if 11 < k then 60 :: (Lib.join (Ty.texts kids) [44] ++ [62]) else [])
def Ty.texts : List Ty → List (List UInt8)
  | [] => []
  | x :: r => Ty.text x :: Ty.texts r
def Ty.colons : List Ty → List (List UInt8)
  | [] => []
  | x :: r => (if isU x = true then [] else 58 :: Ty.text x) :: Ty.colons r
end
theorem Ty.texts_eq (l : List Ty) : Ty.texts l = l.map Ty.text := by
  induction l with
  | nil => rfl
  | cons x r ih => simp only [Ty.texts, List.map_cons, ih]
def colon (x : Ty) : List UInt8 := if isU x = true then [] else 58 :: x.text
theorem Ty.colons_eq (l : List Ty) : Ty.colons l = l.map colon := by
  induction l with
  | nil => rfl
  | cons x r ih => simp only [Ty.colons, List.map_cons, ih]; rfl
theorem Ty.text_mk (k : Int) (n : ByteArray) (l : List ByteArray) (kids : List Ty) : Ty.text (.mk k n l kids) = (kword k).data.toList ++ (if isNamed k = true then 60 :: (n.data.toList ++ [62]) else if isLabelled k = true then 123 :: (Lib.join (labs l (kids.map colon)) [44] ++ [125])
      else if 11 < k then 60 :: (Lib.join (kids.map Ty.text) [44] ++ [62]) else []) := by
  rw [← Ty.colons_eq, ← Ty.texts_eq]; rfl
theorem labs_length (l : List ByteArray) (ks : List (List UInt8)) : (labs l ks).length = l.length := by
  induction l generalizing ks with
  | nil => rfl
  | cons a r ih => simp [labs, ih]
theorem labs_at {l : List ByteArray} {ks : List (List UInt8)} {i : Nat} {a : ByteArray} (h : l[i]? = some a) : (labs l ks)[i]? = some (a.data.toList ++ ks[i]?.getD []) := by
  induction l generalizing ks i with
  | nil => simp at h
  | cons b r ih =>
    cases i with
    | zero => simp at h; subst h; cases ks <;> simp [labs]
    | succ i =>
      have := ih (ks := ks.tail) (by simpa using h)
      simp only [labs, List.getElem?_cons_succ, this]
      cases ks <;> simp
/-- How long. -/
def lenS (ls : List (List UInt8)) : Nat := ls.foldr (fun x n => x.length + n) 0
theorem join_len (sep : UInt8) (ls : List (List UInt8)) : (Lib.join ls [sep]).length ≤ lenS ls + ls.length := by
  cases ls with
  | nil => simp [Lib.join_nil]
  | cons x r =>
    rw [Lib.join_cons, List.length_append]
    have : (Lib.joinTail [sep] r).length = lenS r + r.length := by
      induction r with
      | nil => rfl
      | cons y s ih => 
        simp only [Lib.joinTail, List.map_cons, List.flatten_cons, List.length_append, List.length_cons, lenS, List.foldr_cons, List.length_nil] at ih ⊢
        omega
    rw [this]
    simp only [lenS, List.foldr_cons, List.length_cons]
    omega
theorem labs_len (l : List ByteArray) (ks : List (List UInt8)) : lenS (labs l ks) ≤ D.totals (l.flatMap strD) + lenS ks := by
  induction l generalizing ks with
  | nil => simp [labs, lenS]
  | cons a r ih =>
    have h := ih ks.tail
    have e : lenS ks = (ks.headD []).length + lenS ks.tail := by cases ks <;> simp [lenS]
    have e2 : D.totals ((a :: r).flatMap strD) = a.size + D.totals (r.flatMap strD) := by simp [strD, D.totals, D.total]
    have e3 : lenS (labs (a :: r) ks) = (a.data.toList.length + (ks.headD []).length) + lenS (labs r ks.tail) := by simp [labs, lenS]
    have e4 : a.data.toList.length = a.size := by simp
    omega
theorem len_map_le {α : Type} (f : α → List UInt8) (g : α → Nat) (l : List α) (c : Nat) (h : ∀ x ∈ l, (f x).length ≤ 30 * g x + c) : lenS (l.map f) ≤ 30 * (l.foldr (fun x n => g x + n) 0) + c * l.length := by
  induction l with
  | nil => simp [lenS]
  | cons x r ih =>
    have h1 := h x (by simp)
    have h2 := ih (fun y hy => h y (by simp [hy]))
    have e : lenS ((x :: r).map f) = (f x).length + lenS (r.map f) := by simp [lenS]
    simp only [List.foldr_cons, List.length_cons, Nat.mul_add]
    omega
theorem totals_fold (l : List Ty) : l.foldr (fun x n => D.totals x.ds + n) 0 = D.totals (l.flatMap Ty.ds) := by
  induction l with
  | nil => simp [D.totals]
  | cons x r ih => rw [List.flatMap_cons, D.totals_append, List.foldr_cons, ih]
theorem Ty.text_len (x : Ty) : x.text.length ≤ 30 * D.totals x.ds + 10 := by
  induction x using Ty.ind with
  | h k n l kids ih =>
    have hk := kword_small k
    have ht : D.totals (Ty.ds (.mk k n l kids)) = n.size + (strs l).total + (rows Ty.ds 4 kids).total := by simp [Ty.ds_eq, D.totals, D.total]; omega
    rw [ht, strs, rows_total, rows_total]
    rw [Ty.text_mk, List.length_append]
    have e1 : (kword k).data.toList.length = (kword k).size := by simp
    have e2 : n.data.toList.length = n.size := by simp
    rw [e1]
    split
    · rw [List.length_cons, List.length_append, e2]; simp; omega
    · split
      · have h1 := join_len 44 (labs l (kids.map colon))
        rw [labs_length] at h1
        have h2 := labs_len l (kids.map colon)
        have h3 := len_map_le colon (fun x => D.totals x.ds) kids 11 (fun x hx => by
          have := ih x hx
          unfold colon
          split
          · simp
          · rw [List.length_cons]; omega)
        rw [totals_fold] at h3
        rw [List.length_cons, List.length_append]; simp; omega
      · split
        · have h1 := join_len 44 (kids.map Ty.text)
          rw [List.length_map] at h1
          have h3 := len_map_le Ty.text (fun x => D.totals x.ds) kids 10 ih
          rw [totals_fold] at h3
          rw [List.length_cons, List.length_append]; simp; omega
        · simp; omega
def tyT (x : Ty) : ByteArray := ⟨x.text.toArray⟩
theorem tyT_list (x : Ty) : (tyT x).data.toList = x.text := by simp [tyT]
theorem tyT_size (x : Ty) : (tyT x).size = x.text.length := by simp [tyT, ByteArray.size]
theorem ba_of {s : ByteArray} {l : List UInt8} (h : s.data.toList = l) : s = ⟨l.toArray⟩ := ByteArray.ext (by rw [← h])
theorem ba_size (s : ByteArray) : s.size = s.data.toList.length := by simp
/-- A join as far as k. -/
theorem join_next {ls : List (List UInt8)} {k : Nat} {y : List UInt8} (h : ls[k]? = some y) : Lib.join (ls.take (k + 1)) [44] = if k = 0 then y else Lib.join (ls.take k) [44] ++ (44 :: y) := by
  cases ls with
  | nil => simp at h
  | cons x r =>
    cases k with
    | zero => simp at h; subst h; simp [Lib.join_one]
    | succ k =>
      rw [if_neg (by omega), List.take_succ_cons, List.take_succ_cons, Lib.join_cons, Lib.join_cons, Lib.joinTail_take_succ _ _ _ y (by simpa using h)]
      simp
theorem join_take_len (ls : List (List UInt8)) (k : Nat) : (Lib.join (ls.take k) [44]).length ≤ (Lib.join ls [44]).length := by
  cases ls with
  | nil => simp
  | cons x r =>
    cases k with
    | zero => simp [Lib.join_nil]
    | succ k =>
      rw [List.take_succ_cons, Lib.join_cons, Lib.join_cons, List.length_append, List.length_append]
      have := Lib.joinTail_take_le [44] r k
      omega
end Go.Proofs.YtpfkhojhkjaafaaGreatDoor
namespace Go.Proofs.YtpfkhojhkjaafaaGreatDoor
open Go.RowKit

theorem shape_open {k : Int} {n : ByteArray} {l : List ByteArray} {kids : List Ty} (h : shape (.mk k n l kids) = true) :
    (isNamed k = true ∧ isLabelled k = false ∧ n.toList ≠ [] ∧ nameOk n = true ∧ l = [] ∧ kids = [] ∧ 20 ≤ k ∧ k ≤ 21) ∨
    (isNamed k = false ∧ isLabelled k = true ∧ n = ⟨#[]⟩ ∧ 0 < l.length ∧ l.length ≤ 16 ∧ (kids = [] ∨ kids.length = l.length) ∧ 16 ≤ k ∧ k ≤ 19) ∨
    (isNamed k = false ∧ isLabelled k = false ∧ n = ⟨#[]⟩ ∧ l = [] ∧ 0 < kids.length ∧ 11 < k ∧ k ≠ 20 ∧ k ≠ 21 ∧ ¬ (16 ≤ k ∧ k ≤ 19) ∧ k ≤ 23) ∨
    (isNamed k = false ∧ isLabelled k = false ∧ n = ⟨#[]⟩ ∧ l = [] ∧ kids = [] ∧ 1 ≤ k ∧ k ≤ 11) := by
  unfold shape at h
  simp only [Bool.and_eq_true] at h
  obtain ⟨h1, h2, h3, h4, h5⟩ := h
  have hN : isNamed k = true ↔ (k = 20 ∨ k = 21) := by unfold isNamed; simp
  have hL : isLabelled k = true ↔ (16 ≤ k ∧ k ≤ 19) := by unfold isLabelled inR; simp
  have nempty : n.toList.isEmpty = true → n = ⟨#[]⟩ := by
    intro e
    rw [List.isEmpty_iff, ByteArray.toList_eq] at e
    exact ByteArray.ext (Array.toList_inj.1 e)
  have kfit : kidsFit k l.length kids = true := h5
  unfold kidsFit at kfit
  by_cases c1 : k = 20 ∨ k = 21
  · have n1 := hN.2 c1
    have l1 : isLabelled k = false := by rw [← Bool.not_eq_true, hL]; omega
    rw [n1] at h1 h2
    rw [l1] at h3
    left
    rw [if_neg (by omega), if_neg (by omega), if_neg (by omega), if_neg (by omega), if_neg (by omega), if_neg (by omega)] at kfit
    simp only [Bool.and_eq_true, beq_iff_eq] at kfit
    refine ⟨n1, l1, ?_, by simpa using h2, ?_, List.eq_nil_of_length_eq_zero kfit.2, by omega, by omega⟩
    · intro e
      rw [e] at h1
      simp at h1
    · simp only [beq_iff_eq] at h3
      have := h3.symm
      rw [decide_eq_false_iff_not] at this
      exact List.eq_nil_of_length_eq_zero (by omega)
  · have n1 : isNamed k = false := by rw [← Bool.not_eq_true, hN]; exact c1
    rw [n1] at h1
    have hn : n = ⟨#[]⟩ := nempty (by simpa using h1)
    right
    by_cases c2 : 16 ≤ k ∧ k ≤ 19
    · have l1 := hL.2 c2
      rw [l1] at h3 h4
      left
      have hl : 0 < l.length := by simp only [beq_iff_eq] at h3; exact of_decide_eq_true h3.symm
      refine ⟨n1, l1, hn, hl, ?_, ?_, c2.1, c2.2⟩
      · have : labelsOk l = true := by simpa using h4
        unfold labelsOk at this
        simp only [Bool.and_eq_true, decide_eq_true_eq] at this
        exact this.1.2
      · rw [if_neg (by omega), if_neg (by omega), if_neg (by omega), if_neg (by omega)] at kfit
        by_cases c3 : k = 16
        · rw [if_pos c3] at kfit
          simp only [Bool.and_eq_true, beq_iff_eq] at kfit
          exact .inr kfit.1
        · rw [if_neg c3] at kfit
          by_cases c4 : k = 17
          · rw [if_pos c4] at kfit
            exact .inr (by simpa using kfit)
          · rw [if_neg c4] at kfit
            simp only [Bool.and_eq_true, beq_iff_eq] at kfit
            exact .inl (List.eq_nil_of_length_eq_zero kfit.2)
    · have l1 : isLabelled k = false := by rw [← Bool.not_eq_true, hL]; exact c2
      rw [l1] at h3
      have hl : l = [] := by
        simp only [beq_iff_eq] at h3
        have := h3.symm
        rw [decide_eq_false_iff_not] at this
        exact List.eq_nil_of_length_eq_zero (by omega)
      right
      by_cases c3 : 11 < k ∧ k ≤ 23
      · left
        refine ⟨n1, l1, hn, hl, ?_, c3.1, by omega, by omega, c2, c3.2⟩
        by_cases d1 : k = 12 ∨ k = 13
        · rw [if_pos d1] at kfit; simp only [Bool.and_eq_true, beq_iff_eq] at kfit; omega
        · rw [if_neg d1] at kfit
          by_cases d2 : k = 22 ∨ k = 23
          · rw [if_pos d2] at kfit; simp only [Bool.and_eq_true, beq_iff_eq] at kfit; omega
          · rw [if_neg d2] at kfit
            by_cases d3 : k = 14
            · rw [if_pos d3] at kfit; simp only [beq_iff_eq] at kfit; omega
            · rw [if_neg d3, if_pos (by omega)] at kfit
              simp only [Bool.and_eq_true, decide_eq_true_eq] at kfit; omega
      · right
        rw [if_neg (by omega), if_neg (by omega), if_neg (by omega), if_neg (by omega), if_neg (by omega), if_neg (by omega)] at kfit
        simp only [Bool.and_eq_true, beq_iff_eq] at kfit
        have hr : 1 ≤ k ∧ k ≤ 23 := by have := kfit.1; unfold inR at this; simpa using this
        exact ⟨n1, l1, hn, hl, List.eq_nil_of_length_eq_zero kfit.2, by omega, by omega⟩
theorem all_kids {q : Ty → Bool} {k : Int} {n : ByteArray} {l : List ByteArray} {kids : List Ty} (h : Ty.all q (.mk k n l kids) = true) : q (.mk k n l kids) = true ∧ ∀ x ∈ kids, Ty.all q x = true := by
  rw [Ty.all_mk, Bool.and_eq_true] at h
  exact ⟨h.1, fun x hx => List.all_eq_true.1 h.2 x hx⟩
theorem shape_kind {k : Int} {n : ByteArray} {l : List ByteArray} {kids : List Ty} (h : shape (.mk k n l kids) = true) : 1 ≤ k ∧ k ≤ 23 := by
  rcases shape_open h with ⟨-, -, -, -, -, -, a, b⟩ | ⟨-, -, -, -, -, -, a, b⟩ | ⟨-, -, -, -, -, a, -, -, -, b⟩ | ⟨-, -, -, -, -, a, b⟩ <;> omega
end Go.Proofs.YtpfkhojhkjaafaaGreatDoor
namespace Go.Proofs.YtpfkhojhkjaafaaGreatDoor
open Go.RowKit Go.Shelf Go.Sort

mutual
/-- The names of the handles, in order. -/
def Ty.res : Ty → List ByteArray
  | .mk k n _ kids => (if isNamed k = true then [n] else []) ++ Ty.ress kids
def Ty.ress : List Ty → List ByteArray
  | [] => []
  | x :: r => Ty.res x ++ Ty.ress r
end
theorem Ty.ress_eq (l : List Ty) : Ty.ress l = l.flatMap Ty.res := by
  induction l with
  | nil => rfl
  | cons x r ih => simp only [Ty.ress, List.flatMap_cons, ih]
theorem Ty.res_mk (k : Int) (n : ByteArray) (l : List ByteArray) (kids : List Ty) : Ty.res (.mk k n l kids) = (if isNamed k = true then [n] else []) ++ kids.flatMap Ty.res := by
  rw [← Ty.ress_eq]; rfl
theorem Ty.res_len (x : Ty) : x.res.length ≤ x.parts := by
  induction x using Ty.ind with
  | h k n l kids ih =>
    rw [Ty.res_mk, Ty.parts_mk, List.length_append]
    have h1 : (kids.flatMap Ty.res).length ≤ Ty.partss kids := by
      induction kids with
      | nil => simp
      | cons x r ihr =>
        have := ih x (by simp)
        have := ihr (fun y hy => ih y (by simp [hy]))
        simp only [List.flatMap_cons, List.length_append, Ty.partss]; omega
    split
    · rw [List.length_singleton]; omega
    · rw [List.length_nil]; omega
def smallS (L : List ByteArray) : Prop := ∀ s ∈ L, s.size ≤ maxLen
theorem smallS.ats {w : World} {S : Nat → Prop} {L : List ByteArray} (h : smallS L) : D.Ats w S (L.flatMap strD) (L.map Value.string) := by
  induction L with
  | nil => exact D.Ats.nil
  | cons s r ih => exact D.Ats.append (str_mk (h s (by simp))) (ih (fun y hy => h y (by simp [hy])))
theorem smallS.own {w : World} {base : Nat} {e : TypeId} {v : Value} {L : List ByteArray} (ho : w.ownsRow base e 1 v L.length (L.map Value.string)) (h : smallS L) (hn : L.length ≤ maxLen) : D.At w anyB (strs L) v :=
  D.At.of_own ho (fun _ _ => trivial) h.ats hn
def putBs (L ss : List ByteArray) : List ByteArray := ss.foldl (fun l s => putB s l) L
theorem putB_len (s : ByteArray) (l : List ByteArray) : (putB s l).length ≤ l.length + 1 := by
  induction l with
  | nil => simp [putB]
  | cons x r ih =>
    unfold putB
    split
    · simp
    · split
      · simp
      · simp; omega
theorem putBs_len (L ss : List ByteArray) : (putBs L ss).length ≤ L.length + ss.length := by
  induction ss generalizing L with
  | nil => simp [putBs]
  | cons s r ih => have h1 := ih (putB s L); have h2 := putB_len s L; simp only [putBs, List.foldl_cons, List.length_cons] at h1 ⊢; omega
theorem putB_small {s : ByteArray} {l : List ByteArray} (h : smallS l) (hs : s.size ≤ maxLen) : smallS (putB s l) := by
  induction l with
  | nil => intro x hx; simp [putB] at hx; exact hx ▸ hs
  | cons y r ih =>
    have hr : smallS r := fun x hx => h x (by simp [hx])
    have hy := h y (by simp)
    unfold putB
    split
    · exact h
    · split
      · intro x hx
        rcases List.mem_cons.1 hx with rfl | hx
        · exact hs
        · exact h x hx
      · intro x hx
        rcases List.mem_cons.1 hx with rfl | hx
        · exact hy
        · exact ih hr x hx
theorem putBs_small {L ss : List ByteArray} (h : smallS L) (hs : smallS ss) : smallS (putBs L ss) := by
  induction ss generalizing L with
  | nil => exact h
  | cons s r ih => exact ih (putB_small h (hs s (by simp))) (fun x hx => hs x (by simp [hx]))
theorem putBs_app (L a b : List ByteArray) : putBs L (a ++ b) = putBs (putBs L a) b := by simp [putBs, List.foldl_append]
theorem Ty.res_small {x : Ty} {w : World} {S : Nat → Prop} {cs : List Value} (h : D.Ats w S x.ds cs) : smallS x.res := by
  revert cs
  induction x using Ty.ind with
  | h k n l kids ih =>
    intro cs h
    obtain ⟨A, c, A', c', rfl, -, hn, -, hk⟩ := Ty.open_ h
    rw [Ty.res_mk]
    intro s hs
    rcases List.mem_append.1 hs with hs | hs
    · split at hs
      · simp at hs; exact hs ▸ hn
      · cases hs
    · obtain ⟨y, hy, hs⟩ := List.mem_flatMap.1 hs
      obtain ⟨i, hi, e⟩ := List.getElem_of_mem hy
      obtain ⟨b, off, us, -, -, -, hat, -⟩ := rows_at Ty.len hk (show kids[i]? = some y by rw [List.getElem?_eq_getElem hi, e])
      exact ih y hy hat s hs
theorem own_mono {w : World} {base base' : Nat} {e : TypeId} {size n : Nat} {v : Value} {xs : List Value} (h : w.ownsRow base e size v n xs) (hb : base' ≤ base) : w.ownsRow base' e size v n xs := by
  refine ⟨h.1, ?_⟩
  rcases h.2 with h | ⟨g, cap, cur, e1, e2, e3⟩
  · exact .inl h
  · exact .inr ⟨g, cap, cur, e1, Nat.le_trans hb e2, e3⟩
theorem own_below' {w w' : World} {base : Nat} {e : TypeId} {size n : Nat} {v : Value} {xs : List Value} (h : w.ownsRow base e size v n xs) (hb : Below w.heap.size w w') : w'.ownsRow base e size v n xs := by
  refine ⟨h.1, ?_⟩
  rcases h.2 with h | ⟨g, cap, cur, e1, e2, e3, e4⟩
  · exact .inl h
  · exact .inr ⟨g, cap, cur, e1, e2, (hb.block g (Array.getElem?_eq_some_iff.1 e3).1).trans e3, e4⟩
theorem flat_next {l : List Ty} {j : Nat} {x : Ty} (hx : l[j]? = some x) : (l.take (j + 1)).flatMap Ty.res = (l.take j).flatMap Ty.res ++ x.res := by
  rw [List.take_add_one, hx]; simp
/-- The reference puts a type's names into a row. -/
def ResS (x : Ty) : Prop := ∀ (L : List ByteArray) (v : Value) (cs : List Value) (B : Nat) (w : World), D.Ats w anyB x.ds cs → w.ownsRow B 9 1 v L.length (L.map Value.string) → smallS L → B ≤ w.heap.size → L.length + x.parts ≤ 1000000 →
  Calls Tryz.prog 127 #[.agg cs.toArray, v] w fun e w' => ∃ v', e = .returned v' ∧ w'.ownsRow B 9 1 v' (putBs L x.res).length ((putBs L x.res).map Value.string) ∧ Below w.heap.size w w'
theorem putText_own (s : ByteArray) (L : List ByteArray) (v : Value) (B : Nat) (w : World) (ho : w.ownsRow B 9 1 v L.length (L.map Value.string)) (hs : smallS L) (hl : L.length ≤ 1000000) (hB : B ≤ w.heap.size) :
    Calls Tryz.prog 162 #[v, .string s] w fun e w' => ∃ v', e = .returned v' ∧ w'.ownsRow B 9 1 v' (putB s L).length ((putB s L).map Value.string) ∧ Below w.heap.size w w' := by
  have ha := hs.own ho (by unfold maxLen; omega)
  obtain ⟨A, cap, rfl, -, -⟩ := rows_form strD_length ha
  refine (l03PutText_s s L hl A cap w ha).mono ?_
  rintro e w' ⟨v', rfl, h1, h2⟩
  exact ⟨v', rfl, own_mono h1 hB, h2⟩
set_option maxHeartbeats 2000000 in
set_option maxRecDepth 20000 in
theorem l03Resources_at (k : Int) (n : ByteArray) (l : List ByteArray) (kids : List Ty) (hs : shape (.mk k n l kids) = true) (ih : ∀ x ∈ kids, ResS x) : ResS (.mk k n l kids) := by
  intro L v cs B w hcs ho hsm hB hlen
  rw [Ty.parts_mk] at hlen
  have HS := Lib.hid (Ty.res_small hcs)
  obtain ⟨A, cap, C, cap2, rfl, -, hnl, hl, hk⟩ := Ty.open_ hcs
  obtain ⟨-, hn, hc⟩ := rows_bound hk
  unfold maxLen at hc
  have HK := Lib.hid hk
  have HI := Lib.hid ih
  have HL := Lib.hid (And.intro ho hsm)
  have bA := Box.new w 30 [.int .i64 k, .string n, .slice A l.length cap, .slice C kids.length cap2]
  have HO := Lib.hid (And.intro (ho.alloc (.cells #[.int .i64 k, .string n, .slice A l.length cap, .slice C kids.length cap2] 30)) (And.intro bA (show Below w.heap.size w (w.alloc (.cells #[.int .i64 k, .string n, .slice A l.length cap, .slice C kids.length cap2] 30)) from (Below.refl _ _).alloc (Nat.le_refl _) _)))
  have HR := Lib.hid (Ty.res_mk k n l kids)
  have hname : (isNamed k = true ∧ n.toList.isEmpty = false) ∨ (isNamed k = false ∧ n = ⟨#[]⟩) := by
    rcases shape_open hs with ⟨e1, -, e3, -⟩ | ⟨e1, -, rfl, -⟩ | ⟨e1, -, rfl, -⟩ | ⟨e1, -, rfl, -⟩
    · exact .inl ⟨e1, by rw [List.isEmpty_eq_false_iff]; exact e3⟩
    · exact .inr ⟨e1, rfl⟩
    · exact .inr ⟨e1, rfl⟩
    · exact .inr ⟨e1, rfl⟩
  clear hcs hl hk ih hs bA ho hsm
  rcases hname with ⟨e1, e2⟩ | ⟨e1, rfl⟩
  case' inl =>
    have HE := Lib.hid (show (if isNamed k = true then [n] else []) = [n] from if_pos e1)
    clear e1
    go_enter Tryz.func127, Tryz.ntmps127
    go_wp2_with fail
    refine (putText_own n L v B _ HO.out.1 HL.out.2 (by omega) (Nat.le_trans hB (by simp))).mono ?_
    rintro e w1 ⟨v1, rfl, ho1, hb1⟩
    have HF := Lib.hid (And.intro (show w1.ownsRow B 9 1 v1 (putBs L [n]).length ((putBs L [n]).map Value.string) from ho1) (And.intro (Box.call HO.out.2.1 hb1) (HO.out.2.2.trans (hb1.mono (by simp)))))
    have hlp : (putBs L [n]).length + Ty.partss kids ≤ 1000000 := by have := putBs_len L [n]; simp at this; omega
    have hsm1 : smallS (putBs L [n]) := putBs_small HL.out.2 (fun s hs => by simp at hs; exact hs ▸ hnl)
    clear ho1 hb1
    obtain ⟨M, hM⟩ : ∃ M, putBs L [n] = M := ⟨_, rfl⟩
    rw [hM] at HF hlp hsm1
    have HM := Lib.hid (show ∀ r, putBs L ([n] ++ r) = putBs M r from fun r => by rw [putBs_app, hM])
    clear hM
  case' inr =>
    have HE := Lib.hid (show (if isNamed k = true then [⟨#[]⟩] else []) = ([] : List ByteArray) from if_neg (by rw [e1]; decide))
    clear e1
    have HF := HO
    have hlp : L.length + Ty.partss kids ≤ 1000000 := by omega
    have hsm1 : smallS L := HL.out.2
    obtain ⟨M, hM⟩ : ∃ M, L = M := ⟨_, rfl⟩
    have HM := Lib.hid (show ∀ r, putBs L ([] ++ r) = putBs M r from fun r => by rw [List.nil_append, hM])
    rw [hM] at HF hlp hsm1
    clear hM
    go_enter Tryz.func127, Tryz.ntmps127
  all_goals
    go_wp2
    go_loopw [1, 5] (fun u i wr => ∃ (j : Nat) (v : Value), j ≤ kids.length ∧ i = .int .i64 j ∧ u = v ∧ wr.ownsRow B 9 1 v (putBs M ((kids.take j).flatMap Ty.res)).length ((putBs M ((kids.take j).flatMap Ty.res)).map Value.string) ∧
      Box wr w.heap.size 30 [.int .i64 k, .string _, .slice A l.length cap, .slice C kids.length cap2] ∧ Below w.heap.size w wr) (fun _ i _ => kids.length - (intOf i).toNat)
    case atStart => exact ⟨0, _, Nat.zero_le _, rfl, rfl, HF.out.1, HF.out.2.1, HF.out.2.2⟩
    case round =>
      obtain ⟨j, u, hj, rfl, rfl, hO, fA, Bw⟩ := hrel
      have c := fA.cell
      by_cases hlt : j < kids.length
      · obtain ⟨x, hx⟩ : ∃ x, kids[j]? = some x := ⟨kids[j], List.getElem?_eq_getElem hlt⟩
        have hk0 : (0 : Int) ≤ (j : Int) := by omega
        have hk1 : (j : Int) < (kids.length : Int) := by omega
        obtain ⟨b', off', u0, u1, u2, u3, rfl, -, hbl', hat', c0, c1, c2, c3⟩ := rows_at4 Ty.len HK.out hx
        replace c0 := (Bw.cell (p := ⟨b', off' + j * 4, none⟩) hbl').trans c0
        replace c1 := (Bw.cell (p := ⟨b', off' + j * 4 + 1, none⟩) hbl').trans c1
        replace c2 := (Bw.cell (p := ⟨b', off' + j * 4 + 2, none⟩) hbl').trans c2
        replace c3 := (Bw.cell (p := ⟨b', off' + j * 4 + 3, none⟩) hbl').trans c3
        have hxm : x ∈ kids := List.mem_of_getElem? hx
        have HIx := Lib.hid (HI.out x hxm)
        have HXt := Lib.hid (hat'.below Bw)
        have hpl : (putBs M ((kids.take j).flatMap Ty.res)).length + x.parts ≤ 1000000 := by
          have h1 := putBs_len M ((kids.take j).flatMap Ty.res)
          have h2 : ((kids.take j).flatMap Ty.res).length ≤ Ty.partss (kids.take j) := by
            have := Ty.res_len (.mk 0 ⟨#[]⟩ [] (kids.take j))
            rw [Ty.res_mk, Ty.parts_mk, if_neg (by decide)] at this
            simp only [List.nil_append] at this
            have key : ∀ l : List Ty, (l.flatMap Ty.res).length ≤ Ty.partss l := by
              intro l
              induction l with
              | nil => simp
              | cons y r ihr => have := Ty.res_len y; simp only [List.flatMap_cons, List.length_append, Ty.partss]; omega
            exact key _
          have h3 := Ty.partss_next hx
          have h4 := Ty.partss_take kids (j + 1)
          omega
        have hsx : smallS (putBs M ((kids.take j).flatMap Ty.res)) := putBs_small hsm1 (fun s hs => HS.out s (by
          rw [HR.out]
          refine List.mem_append.2 (.inr ?_)
          obtain ⟨y, hy, h⟩ := List.mem_flatMap.1 hs
          exact List.mem_flatMap.2 ⟨y, List.mem_of_mem_take hy, h⟩))
        have HN := Lib.hid (show putBs (putBs M ((kids.take j).flatMap Ty.res)) x.res = putBs M ((kids.take (j + 1)).flatMap Ty.res) by rw [flat_next hx, putBs_app])
        have HO2 := Lib.hid (And.intro hO hsx)
        clear hat' hx hxm hO hsx
        go_wp2_with fail
        refine (HIx.out _ _ _ B _ HXt.out HO2.out.1 HO2.out.2 (Nat.le_trans hB Bw.size) hpl).mono ?_
        rintro e w2 ⟨v2, rfl, ho2, hb2⟩
        rw [HN.out] at ho2
        have HB2 := Lib.hid (And.intro ho2 (And.intro (fA.call hb2) (Bw.trans (hb2.mono Bw.size))))
        clear c0 c1 c2 c3 c ho2 hb2
        go_wp2
        go_roundw
        case rel => exact ⟨j + 1, v2, by omega, by go_num, rfl, HB2.out⟩
        case measure => simp [intOf]; omega
      · obtain rfl : j = kids.length := by omega
        have HB2 := Lib.hid (And.intro hO Bw)
        clear hO
        go_wp2
        go_ret
        refine ⟨_, rfl, ?_, HB2.out.2⟩
        have h := HB2.out.1
        rw [List.take_length] at h
        rw [HR.out, HE.out, HM.out]
        exact h
theorem l03Resources_s (x : Ty) (hs : Ty.all shape x = true) : ResS x := by
  induction x using Ty.ind with
  | h k n l kids ih =>
    obtain ⟨h1, h2⟩ := all_kids hs
    exact l03Resources_at k n l kids h1 (fun x hx => ih x hx (h2 x hx))
end Go.Proofs.YtpfkhojhkjaafaaGreatDoor
namespace Go.Proofs.YtpfkhojhkjaafaaGreatDoor
open Go.RowKit

/-- The names of the handles of a function's type, in order. -/
def fnNames (f : Fn) : List ByteArray := f.res.res ++ f.params.flatMap (fun p => p.ty.res)
def knownB (f : Fn) (L : List ByteArray) : Bool := (fnNames f).all (memS L)
theorem putBs_mem (L ss : List ByteArray) (a : ByteArray) : a ∈ putBs L ss ↔ a ∈ L ∨ a ∈ ss := by
  induction ss generalizing L with
  | nil => simp [putBs]
  | cons s r ih =>
    show a ∈ putBs (putB s L) r ↔ _
    rw [ih, putB_mem]
    simp only [List.mem_cons]
    constructor
    · rintro ((h | h) | h)
      · exact .inr (.inl h)
      · exact .inl h
      · exact .inr (.inr h)
    · rintro (h | h | h)
      · exact .inl (.inr h)
      · exact .inl (.inl h)
      · exact .inr h
theorem putBs_all_eq (ss : List ByteArray) (P : ByteArray → Bool) : (putBs [] ss).all P = ss.all P := by
  rw [Bool.eq_iff_iff, List.all_eq_true, List.all_eq_true]
  exact ⟨fun h x hx => h x ((putBs_mem [] ss x).2 (.inr hx)), fun h x hx => h x (((putBs_mem [] ss x).1 hx).resolve_left (by simp))⟩
theorem names_next {l : List Pa} {j : Nat} {x : Pa} (hx : l[j]? = some x) : (l.take (j + 1)).flatMap (fun p => p.ty.res) = (l.take j).flatMap (fun p => p.ty.res) ++ x.ty.res := by
  rw [List.take_add_one, hx]; simp
theorem names_len (l : List Pa) (h : ∀ p ∈ l, p.ty.parts ≤ 24) : (l.flatMap (fun p => p.ty.res)).length ≤ l.length * 24 := by
  induction l with
  | nil => simp
  | cons x r ih =>
    rw [List.flatMap_cons, List.length_append, List.length_cons]
    have h1 := Ty.res_len x.ty
    have h2 := h x (by simp)
    have h3 := ih (fun p hp => h p (by simp [hp]))
    omega
/-- Up to q all are known. -/
def AllTo {α : Type} (P : α → Bool) (L : List α) (q : Nat) : Prop := ∀ j x, j < q → L[j]? = some x → P x = true
theorem AllTo.next {α : Type} {P : α → Bool} {L : List α} {q : Nat} {x : α} (h : AllTo P L q) (hx : L[q]? = some x) (hp : P x = true) : AllTo P L (q + 1) := by
  intro j y hj hy
  by_cases e : j = q
  · subst e
    rw [hx] at hy
    obtain rfl := Option.some.inj hy
    exact hp
  · exact h j y (by omega) hy
theorem AllTo.end_ {α : Type} {P : α → Bool} {L : List α} (h : AllTo P L L.length) : L.all P = true := by
  rw [List.all_eq_true]
  intro x hx
  obtain ⟨j, hj⟩ := List.getElem?_of_mem hx
  exact h j x (List.getElem?_eq_some_iff.1 hj).1 hj
theorem all_bad {α : Type} {P : α → Bool} {L : List α} {q : Nat} {x : α} (hx : L[q]? = some x) (hp : P x = false) : L.all P = false := by
  cases h : L.all P
  · rfl
  · rw [List.all_eq_true] at h
    rw [h x (List.mem_of_getElem? hx)] at hp
    cases hp
/-- Whether s is among the first q. -/
def memTo (L : List ByteArray) (s : ByteArray) (q : Nat) : Bool := memS (L.take q) s
theorem memTo_next {L : List ByteArray} {s x : ByteArray} {q : Nat} (hx : L[q]? = some x) : memTo L s (q + 1) = (memTo L s q || (x.toList == s.toList)) := by
  unfold memTo memS
  rw [List.take_add_one, hx, List.any_append]
  simp
theorem memTo_end (L : List ByteArray) (s : ByteArray) : memTo L s L.length = memS L s := by unfold memTo; rw [List.take_length]
def KnRel (w : World) (ps : List Pa) (rs : List ByteArray) (cells : List Value) (v i : Value) (wr : World) : Prop :=
  ∃ (j : Nat) (T : List ByteArray), j ≤ ps.length ∧ i = .int .i64 j ∧ T = putBs [] (rs ++ (ps.take j).flatMap (fun p => p.ty.res)) ∧ wr.ownsRow w.heap.size 9 1 v T.length (T.map Value.string) ∧ smallS T ∧ T.length ≤ 1000 ∧
    Box wr w.heap.size 32 cells ∧ Below w.heap.size w wr
end Go.Proofs.YtpfkhojhkjaafaaGreatDoor
namespace Go.Proofs.YtpfkhojhkjaafaaGreatDoor
open Go.RowKit

theorem row_empty (w : World) (base : Nat) (hb : base ≤ w.heap.size) (e : TypeId) : (w.alloc (.cells #[] e)).ownsRow base e 1 (.slice (some ⟨w.heap.size, 0, none⟩) 0 0) 0 [] :=
  World.ownsRow_lit _ _ _ hb (by decide) (by rfl)
/-- What the walk wants of a function's type. -/
theorem kn_fit {ps : List Pa} {res : Ty} {a : Bool} (h : fnOk ⟨ps, res, a⟩ = true) : ps.length ≤ 6 ∧ (∀ p ∈ ps, Ty.all shape p.ty = true ∧ p.ty.parts ≤ 24) ∧ Ty.all shape res = true ∧ res.parts ≤ 24 := by
  unfold fnOk pasOk resOk at h
  simp only [Bool.and_eq_true, decide_eq_true_eq, Bool.not_eq_true'] at h
  obtain ⟨⟨h1, h2, -⟩, h4, -⟩ := h
  have key : ∀ x : Ty, tyOk x = true → Ty.all shape x = true ∧ x.parts ≤ 24 := fun x hx => by
    unfold tyOk at hx
    simp only [Bool.and_eq_true, decide_eq_true_eq] at hx
    exact ⟨hx.2.2, hx.2.1⟩
  refine ⟨h1, fun p hp => ?_, key res h4⟩
  have h5 : paOk p = true := by
    cases h6 : paOk p
    · have : (ps.any fun p => !paOk p) = true := List.any_eq_true.2 ⟨p, hp, by rw [h6]; rfl⟩
      rw [h2] at this
      cases this
    · rfl
  unfold paOk at h5
  simp only [Bool.and_eq_true] at h5
  exact key p.ty h5.2.1
set_option maxHeartbeats 4000000 in
set_option maxRecDepth 20000 in
theorem l03Known_s (x : Fn) (L : List ByteArray) (cs : List Value) (AL : Option Addr) (cL : Nat) (w : World) (ok : fnOk x = true) (hcs : D.Ats w anyB x.ds cs) (hL : D.At w anyB (strs L) (.slice AL L.length cL)) :
    Calls Tryz.prog 74 #[.agg cs.toArray, .slice AL L.length cL] w fun e w' => e = .returned (.bool (knownB x L)) ∧ Below w.heap.size w w' := by
  obtain ⟨ps, res, aa⟩ := x
  obtain ⟨h6, hpar, hres, hrp⟩ := kn_fit ok
  obtain ⟨PA, cA, k, n, A1, m1, c1, A2, m2, c2, rfl, hp, hr⟩ := Fn.open_ hcs
  simp only at hp hr
  obtain ⟨-, hnL, hcL⟩ := rows_bound hL
  unfold maxLen at hcL
  have HSr := Lib.hid (Ty.res_small hr)
  have HSp := Lib.hid (show ∀ p ∈ ps, smallS p.ty.res from fun p hpm => by
    obtain ⟨j, hj⟩ := List.getElem?_of_mem hpm
    obtain ⟨b, off, u0, u1, u2, u3, u4, -, -, -, hat, -⟩ := rows_at5 Pa.len hp hj
    obtain ⟨xk, xn, X1, xm, xc, X2, xm2, xc2, -, -, hatx⟩ := Pa.open_ hat
    exact Ty.res_small hatx)
  have HV := Lib.hid (show knownB ⟨ps, res, aa⟩ L = (putBs [] (fnNames ⟨ps, res, aa⟩)).all (memS L) from (putBs_all_eq _ _).symm)
  have HNM := Lib.hid (show fnNames ⟨ps, res, aa⟩ = res.res ++ ps.flatMap (fun p => p.ty.res) from rfl)
  have HP := Lib.hid (And.intro hp hL)
  have HR := Lib.hid hr
  have HF := Lib.hid (And.intro hpar (And.intro hres hrp))
  obtain ⟨w0, hw0⟩ : ∃ w0, w0 = w.alloc (.cells #[.slice PA ps.length cA, .int .i64 k, .string n, .slice A1 m1 c1, .slice A2 m2 c2, .bool aa] 32) := ⟨_, rfl⟩
  have bA : Box w0 w.heap.size 32 [.slice PA ps.length cA, .int .i64 k, .string n, .slice A1 m1 c1, .slice A2 m2 c2, .bool aa] := by rw [hw0]; exact Box.new w _ _
  have B0 : Below w.heap.size w w0 := by rw [hw0]; exact (Below.refl _ _).alloc (Nat.le_refl _) _
  have HE := Lib.hid (row_empty w0 w.heap.size B0.size 9)
  have B1 : Below w.heap.size w (w0.alloc (.cells #[] 9)) := B0.alloc B0.size _
  have HX := Lib.hid (l03Resources_s res hres [] (.slice (some ⟨w0.heap.size, 0, none⟩) 0 0) [.int .i64 k, .string n, .slice A1 m1 c1, .slice A2 m2 c2] w.heap.size (w0.alloc (.cells #[] 9)) (HR.out.below B1) HE.out (fun s hs => by cases hs) B1.size (by simp; omega))
  clear hcs hp hr hL ok hpar hres
  change Calls Tryz.prog 74 #[.agg #[.slice PA ps.length cA, .int .i64 k, .string n, .slice A1 m1 c1, .slice A2 m2 c2, .bool aa], .slice AL L.length cL] w _
  have kA := bA.cell
  go_enter Tryz.func74, Tryz.ntmps74
  go_upto_region 1 with fail
  rw [← hw0]
  clear hw0
  go_wp2_with fail
  refine HX.out.mono ?_
  rintro e w1 ⟨v1, rfl, ho1, hb1⟩
  have B2 := B1.trans (hb1.mono B1.size)
  have bA1 := (bA.alloc (.cells #[] 9)).call hb1
  have hT0 := putBs_len [] res.res
  have hT1 := Ty.res_len res
  have hst : KnRel w ps res.res [.slice PA ps.length cA, .int .i64 k, .string n, .slice A1 m1 c1, .slice A2 m2 c2, .bool aa] v1 (.int .i64 0) w1 :=
    ⟨0, _, Nat.zero_le _, rfl, rfl, by simpa using ho1, by simpa using putBs_small (L := []) (fun s hs => by cases hs) HSr.out, by simp at hT0 ⊢; omega, bA1, B2⟩
  have HST := Lib.hid hst
  clear hst kA bA B0 B1 B2 bA1 ho1 hb1 HX HE hT0 hT1
  go_wp2
  go_loopw [5, 6] (fun v i wr => KnRel w ps res.res [.slice PA ps.length cA, .int .i64 k, .string n, .slice A1 m1 c1, .slice A2 m2 c2, .bool aa] v i wr) (fun _ i _ => ps.length - (intOf i).toNat)
  case atStart => exact HST.out
  case round =>
    obtain ⟨j, T, hj, rfl, hT, hown, hsm, hTl, fA, Bw⟩ := hrel
    have c := fA.cell
    have HT := Lib.hid hT
    clear hT
    by_cases hlt : j < ps.length
    · obtain ⟨y, hy⟩ : ∃ y, ps[j]? = some y := ⟨ps[j], List.getElem?_eq_getElem hlt⟩
      have hk0 : (0 : Int) ≤ (j : Int) := by omega
      have hk1 : (j : Int) < (ps.length : Int) := by omega
      obtain ⟨b, off, u0, u1, u2, u3, u4, e, -, hbl, hat, d0, d1, d2, d3, d4⟩ := rows_at5 Pa.len (HP.out.1.below Bw) hy
      subst e
      obtain ⟨xk, xn, X1, xm, xc, X2, xm2, xc2, exx, -, hatx⟩ := Pa.open_ hat
      simp only [List.cons.injEq, and_true] at exx
      obtain ⟨rfl, rfl, rfl, rfl, rfl⟩ := exx
      obtain ⟨hys, hyp⟩ := HF.out.1 y (List.mem_of_getElem? hy)
      have HX := Lib.hid (l03Resources_s y.ty hys T _ _ w.heap.size wr hatx hown hsm Bw.size (by omega))
      have hTn : putBs T y.ty.res = putBs [] (res.res ++ (ps.take (j + 1)).flatMap (fun p => p.ty.res)) := by rw [names_next hy, ← List.append_assoc, putBs_app, ← HT.out]
      have hsm2 : smallS (putBs T y.ty.res) := putBs_small hsm (HSp.out y (List.mem_of_getElem? hy))
      have hlen2 : (putBs T y.ty.res).length ≤ 1000 := by
        rw [hTn]
        have h1 := putBs_len [] (res.res ++ (ps.take (j + 1)).flatMap (fun p => p.ty.res))
        have h2 := Ty.res_len res
        have h3 := names_len (ps.take (j + 1)) (fun p hp => (HF.out.1 p (List.mem_of_mem_take hp)).2)
        have h4 : (ps.take (j + 1)).length ≤ 6 := by rw [List.length_take]; omega
        simp only [List.length_append, List.length_nil] at h1
        omega
      have HN := Lib.hid (And.intro hTn (And.intro hsm2 hlen2))
      clear hy hat hatx hys hown hsm hTn hsm2 hlen2
      go_wp2_with fail
      refine HX.out.mono ?_
      rintro e w2 ⟨v2, rfl, ho2, hb2⟩
      have HB2 := Lib.hid (And.intro ho2 (And.intro (fA.call hb2) (Bw.trans (hb2.mono Bw.size))))
      clear c d0 d1 d2 d3 d4 ho2 hb2
      go_wp2
      go_roundw
      case rel => exact ⟨j + 1, _, by omega, by go_num, HN.out.1, HB2.out.1, HN.out.2.1, HN.out.2.2, HB2.out.2⟩
      case measure => simp [intOf]; omega
    · obtain rfl : j = ps.length := by omega
      obtain ⟨W1, hW1⟩ : ∃ W1, W1 = wr := ⟨_, rfl⟩
      rw [← hW1] at hown fA Bw c ⊢
      clear hW1
      have hrow := hsm.own hown (by unfold maxLen; omega)
      obtain ⟨AT, cT, rfl, -, -⟩ := rows_form strD_length hrow
      have HTV := Lib.hid (show knownB ⟨ps, res, aa⟩ L = T.all (memS L) by rw [HV.out, HNM.out, HT.out, List.take_length])
      have HRW := Lib.hid (And.intro hrow (HP.out.2.below Bw))
      clear hrow hown hsm
      go_wp2
      go_loopw [7, 8, 9] (fun i _ _ wr => ∃ q : Nat, q ≤ T.length ∧ i = .int .i64 q ∧ AllTo (memS L) T q ∧ Below W1.heap.size W1 wr) (fun i _ _ _ => T.length - (intOf i).toNat)
      case atStart => exact ⟨0, Nat.zero_le _, rfl, fun j x h => absurd h (by omega), Below.refl _ _⟩
      case round =>
        obtain ⟨q, hq, rfl, hall, hbq⟩ := hrel
        have HALL := Lib.hid hall
        clear hall
        by_cases hltq : q < T.length
        · obtain ⟨s, hs⟩ : ∃ s, T[q]? = some s := ⟨T[q], List.getElem?_eq_getElem hltq⟩
          have hk0 : (0 : Int) ≤ (q : Int) := by omega
          have hk1 : (q : Int) < (T.length : Int) := by omega
          have HS := Lib.hid hs
          obtain ⟨W2, hW2⟩ : ∃ W2, W2 = wr := ⟨_, rfl⟩
          rw [← hW2] at hbq ⊢
          clear hW2 hs
          go_wp2
          go_loopw [8, 9] (fun m i wr => ∃ p : Nat, p ≤ L.length ∧ i = .int .i64 p ∧ m = .bool (memTo L s p) ∧ Below W2.heap.size W2 wr) (fun _ i _ => L.length - (intOf i).toNat)
          case atStart => exact ⟨0, Nat.zero_le _, rfl, rfl, Below.refl _ _⟩
          case round =>
            obtain ⟨p, hp, rfl, rfl, hbp⟩ := hrel
            have hbb := hbq.trans (hbp.mono hbq.size)
            by_cases hltp : p < L.length
            · obtain ⟨x, hx⟩ : ∃ x, L[p]? = some x := ⟨L[p], List.getElem?_eq_getElem hltp⟩
              have hp0 : (0 : Int) ≤ (p : Int) := by omega
              have hp1 : (p : Int) < (L.length : Int) := by omega
              obtain ⟨bl, offl, u0, e, -, hbl, hat, c0⟩ := rows_at1 strD_length (HRW.out.2.below hbb) hx
              subst e
              obtain ⟨rfl, -⟩ := str_open hat
              obtain ⟨bt, offt, u0, e, -, hbt, hat', c1⟩ := rows_at1 strD_length (HRW.out.1.below hbb) HS.out
              subst e
              obtain ⟨rfl, -⟩ := str_open hat'
              have d0 := cell_regrown c0
              have d1 := cell_regrown c1
              have HM := Lib.hid (memTo_next (s := s) hx)
              clear hx hat hat' c0 c1
              cases hm : memTo L s p
              all_goals
                have HMM := Lib.hid hm
                go_wp2_with fail
                refine wp_region_quiet_below (by kernel_rfl) (by kernel_rfl) ?_
                repeat (first | go_big_quiet_step (fail) | quiet_step (fail))
                refine wpQuiet_nil ?_
                intro w2 hw2
                have hb3 := hbp.trans ((below_of_regrown hw2).mono hbp.size)
                clear hw2 d0 d1
                go_wp2
                go_roundw
                case rel => exact ⟨p + 1, by omega, by go_num, by rw [HM.out, HMM.out]; rfl, hb3⟩
                case measure => simp [intOf]; omega
            · obtain rfl : p = L.length := by omega
              have HM := Lib.hid (memTo_end L s)
              cases hm : memTo L s L.length
              · have HB := Lib.hid (show T.all (memS L) = false from all_bad HS.out (by rw [← HM.out]; exact hm))
                clear hm
                go_wp2
                exact bodyPost_ret (v := .bool false) (by simp [results, Tryz.results74, go_sem]) rfl ⟨by rw [HTV.out, HB.out], Bw.trans (hbb.mono Bw.size)⟩
              · have HB := Lib.hid (HALL.out.next HS.out (by rw [← HM.out]; exact hm))
                clear hm
                go_wp2
                go_roundw
                case rel => exact ⟨q + 1, by omega, by go_num, HB.out, hbb⟩
                case measure => simp [intOf]; omega
        · obtain rfl : q = T.length := by omega
          have HB := Lib.hid HALL.out.end_
          go_wp2
          exact bodyPost_ret (v := .bool true) (by simp [results, Tryz.results74, go_sem]) rfl ⟨by rw [HTV.out, HB.out], Bw.trans (hbq.mono Bw.size)⟩
end Go.Proofs.YtpfkhojhkjaafaaGreatDoor
namespace Go.Proofs.YtpfkhojhkjaafaaGreatDoor
open Go.RowKit Go.Shelf Go.Sort

/-- Append of a row of texts to a row of texts that the call owns. -/
theorem wpList_strs {w1 : World} {ops : Array Oper} {rest : List Oper} {o : Oper} {a : Act} {Q : Exit → Act → World → Prop} {base : Nat} {v : Value} {n : Nat} {l : List ByteArray}
    (hown : w1.ownsRow base 9 1 v n (l.map Value.string)) (hv : v ≠ .slice none 0 0) (r : List ByteArray) (g m c : Nat) (hm : r.length = m) (hr : w1.ownsRow base 9 1 (.slice (some ⟨g, 0, none⟩) m c) m (r.map Value.string)) (s x : Operand)
    (hn : n + m ≤ 8796093022208) (hbase : base ≤ w1.heap.size)
    (h : ∀ g' c' w', w'.ownsRow base 9 1 (.slice (some ⟨g', 0, none⟩) (n + m) c') (n + m) ((l ++ r).map Value.string) → Below base w1 w' → wpList Tryz.prog ops Q rest (a.put o.dst (.slice (some ⟨g', 0, none⟩) (n + m) c')) w')
    (hgd : o.guard = none := by exact rfl) (ho : o.op = .call { callee := .builtin .append, args := #[s, x], argTypes := #[22, 22] } := by exact rfl)
    (hs : a.eval s = v := by exact rfl) (hx : a.eval x = .slice (some ⟨g, 0, none⟩) m c := by exact rfl) :
    wpList Tryz.prog ops Q (o :: rest) a w1 := by
  obtain ⟨i0, hi, hz0, hz1, hz2⟩ := info_parts info_str''
  refine wpList_append_own _ hgd s x 22 ho base 9 i0 (.string ⟨#[]⟩) 1 16 Tryz.underlying22 hi hz0 hz1 hz2 rfl (by decide) v n (l.map Value.string) hs hown
    ⟨g, 0, none⟩ m c (r.map Value.string) hx (by simp [hm]) ?_ ?_ (by simp only [maxLen]; omega) (by omega) (by omega) ?_
  · exact hr.cells (g := g) rfl
  · intro u hu
    obtain ⟨y, -, rfl⟩ := List.mem_map.1 hu
    rfl
  · intro v' w' h1 h2 h3
    have hne : v' ≠ .slice none 0 0 := fun e => hv (h3.1 e).1
    have hb : Below base w1 w' := (Below.refl _ _).grown h2 hbase (fun k hk => (hown.lt k hk).1)
    rcases h1.2 with ⟨rfl, _⟩ | ⟨g', c', cur, rfl, h4⟩
    · exact absurd rfl hne
    · exact h g' c' w' (by simpa using h1) hb
theorem own_empty' (w : World) (base : Nat) (hb : base ≤ w.heap.size) (e : TypeId) (g : Nat) (hg : w.heap.size = g) : (w.alloc (.cells #[] e)).ownsRow base e 1 (.slice (some ⟨g, 0, none⟩) 0 0) 0 [] := by
  subst hg
  exact World.ownsRow_lit _ _ _ hb (by decide) (by rfl)
theorem own_some {w : World} {base : Nat} {e : TypeId} {v : Value} {xs : List Value} (ho : w.ownsRow base e 1 v (0 + 1) xs) : ∃ g c, v = .slice (some ⟨g, 0, none⟩) 1 c := by
  rcases ho.2 with ⟨-, h⟩ | ⟨g, c, cur, h, -⟩
  · omega
  · exact ⟨g, c, h⟩
def ResI (x : Ty) : Prop := ∀ (cs : List Value) (w : World), D.Ats w anyB x.ds cs →
  Calls Tryz.prog 133 #[.agg cs.toArray] w fun e w' => ∃ g c, e = .returned (.slice (some ⟨g, 0, none⟩) x.res.length c) ∧ w'.ownsRow w.heap.size 9 1 (.slice (some ⟨g, 0, none⟩) x.res.length c) x.res.length (x.res.map Value.string) ∧ Below w.heap.size w w'
/-- Between two rounds: the names so far. -/
def ResRel (w : World) (kids : List Ty) (N : List ByteArray) (cells : List Value) (v i : Value) (wr : World) : Prop :=
  ∃ (j g c : Nat) (T : List ByteArray), j ≤ kids.length ∧ i = .int .i64 j ∧ T = N ++ (kids.take j).flatMap Ty.res ∧ v = .slice (some ⟨g, 0, none⟩) T.length c ∧ wr.ownsRow (w.heap.size + 1) 9 1 v T.length (T.map Value.string) ∧
    Box wr w.heap.size 30 cells ∧ Below w.heap.size w wr
theorem Box.under' {w w' : World} {B g : Nat} {t : TypeId} {cs : List Value} (h : Box w g t cs) (hb : Below B w w') (hg : g < B) : Box w' g t cs := (hb.block g hg).trans h
set_option maxHeartbeats 2000000 in
set_option maxRecDepth 20000 in
theorem resources_at (k : Int) (n : ByteArray) (l : List ByteArray) (kids : List Ty) (hp : Ty.parts (.mk k n l kids) ≤ 1000000) (ih : ∀ x ∈ kids, ResI x) : ResI (.mk k n l kids) := by
  intro cs w hcs
  rw [Ty.parts_mk] at hp
  obtain ⟨A, cap, C, cap2, rfl, -, hnl, hl, hk⟩ := Ty.open_ hcs
  obtain ⟨-, hn, hc⟩ := rows_bound hk
  unfold maxLen at hc
  have HK := Lib.hid hk
  have HI := Lib.hid ih
  have HR := Lib.hid (Ty.res_mk k n l kids)
  have bA := Box.new w 30 [.int .i64 k, .string n, .slice A l.length cap, .slice C kids.length cap2]
  have O0 : ((w.alloc (.cells #[.int .i64 k, .string n, .slice A l.length cap, .slice C kids.length cap2] 30)).alloc (.cells #[] 9)).ownsRow (w.heap.size + 1) 9 1 (.slice (some ⟨w.heap.size + 1, 0, none⟩) 0 0) 0 (([] : List ByteArray).map Value.string) :=
    own_empty' _ _ (by simp) _ _ (by simp)
  have B0 : Below w.heap.size w ((w.alloc (.cells #[.int .i64 k, .string n, .slice A l.length cap, .slice C kids.length cap2] 30)).alloc (.cells #[] 9)) := ((Below.refl _ _).alloc (Nat.le_refl _) _).alloc (by simp) _
  have HO := Lib.hid (And.intro O0 (And.intro (bA.alloc (.cells #[] 9)) B0))
  have hno : isNamed k = true ↔ (k = 20 ∨ k = 21) := by unfold isNamed; simp
  clear hcs hl hk ih bA O0 B0
  have tail : ∀ (N : List ByteArray) (W : World), (if isNamed k = true then [n] else []) = N → True := fun _ _ _ => trivial
  clear tail
  by_cases hnm : k = 20 ∨ k = 21
  case' pos =>
    have HE := Lib.hid (show (if isNamed k = true then [n] else []) = [n] from if_pos (hno.2 hnm))
    have HNo := Lib.hid hno
    clear hno
    by_cases h20 : k = 20
    case' pos =>
      have e20 : (k == 20) = true := by simp [h20]
    case' neg =>
      have e20 : (k == 20) = false := by simp [h20]
      have e21 : (k == 21) = true := by have h : k = 21 := (by omega); simp [h]
    all_goals
      clear hnm h20
      have q1 : 0 + 1 ≤ 8796093022208 := by omega
      have q2 : w.heap.size + 1 ≤ ((w.alloc (.cells #[.int .i64 k, .string n, .slice A l.length cap, .slice C kids.length cap2] 30)).alloc (.cells #[] 9)).heap.size := by first | (simp; done) | (simp; omega)
      have q3 : ((w.alloc (.cells #[.int .i64 k, .string n, .slice A l.length cap, .slice C kids.length cap2] 30)).alloc (.cells #[] 9)).heap.size = w.heap.size + 2 := by first | (simp; done) | (simp; omega)
      go_enter Tryz.func133, Tryz.ntmps133
      go_wp2_with (at_builtin; refine wpList_str HO.out.1 n (.tmp 15) (.tmp 18) q1 q2 (w.heap.size + 2) q3 ?_; intro v' w' ho' hb'; obtain ⟨g, c, rfl⟩ := own_some ho'; have cb := (HO.out.2.1.under' hb' (Nat.lt_succ_self _)).cell)
      have HF := Lib.hid (And.intro (show w'.ownsRow (w.heap.size + 1) 9 1 (.slice (some ⟨g, 0, none⟩) 1 c) ([n] : List ByteArray).length (([n] : List ByteArray).map Value.string) from ho') (And.intro (HO.out.2.1.under' hb' (Nat.lt_succ_self _)) (HO.out.2.2.trans (hb'.mono (Nat.le_succ _)))))
      clear ho' hb' q1 q2 q3 cb
  case' neg =>
    have HE := Lib.hid (show (if isNamed k = true then [n] else []) = ([] : List ByteArray) from if_neg (fun h => hnm (hno.1 h)))
    have e20 : (k == 20) = false := by simp; omega
    have e21 : (k == 21) = false := by simp; omega
    clear hnm hno
    have HF := HO
    go_enter Tryz.func133, Tryz.ntmps133
    go_wp2
  all_goals
    go_loopw [3, 5, 23] (fun v _ i wr => ResRel w kids (if isNamed k = true then [n] else []) [.int .i64 k, .string n, .slice A l.length cap, .slice C kids.length cap2] v i wr) (fun _ _ i _ => kids.length - (intOf i).toNat)
    case atStart => exact ⟨0, _, _, _, Nat.zero_le _, rfl, by rw [HE.out]; simp, rfl, HF.out⟩
    case round =>
      obtain ⟨j, g, c, T, hj, rfl, hT, rfl, hO, fA, Bw⟩ := hrel
      have HT := Lib.hid hT
      have hTl : T.length ≤ 1 + Ty.partss kids := by
        rw [hT, List.length_append]
        have key : ∀ l : List Ty, (l.flatMap Ty.res).length ≤ Ty.partss l := by
          intro l
          induction l with
          | nil => simp
          | cons y r ihr => have := Ty.res_len y; simp only [List.flatMap_cons, List.length_append, Ty.partss]; omega
        have h2 := key (kids.take j)
        have h3 := Ty.partss_take kids j
        have h4 : (if isNamed k = true then [n] else []).length ≤ 1 := by split <;> simp
        omega
      clear hT
      have hbs : w.heap.size + 1 ≤ wr.heap.size := fA.lt
      have cc := fA.cell
      by_cases hlt : j < kids.length
      · obtain ⟨x, hx⟩ : ∃ x, kids[j]? = some x := ⟨kids[j], List.getElem?_eq_getElem hlt⟩
        have hk0 : (0 : Int) ≤ (j : Int) := by omega
        have hk1 : (j : Int) < (kids.length : Int) := by omega
        obtain ⟨b', off', u0, u1, u2, u3, rfl, -, hbl', hat', c0, c1, c2, c3⟩ := rows_at4 Ty.len HK.out hx
        replace c0 := (Bw.cell (p := ⟨b', off' + j * 4, none⟩) hbl').trans c0
        replace c1 := (Bw.cell (p := ⟨b', off' + j * 4 + 1, none⟩) hbl').trans c1
        replace c2 := (Bw.cell (p := ⟨b', off' + j * 4 + 2, none⟩) hbl').trans c2
        replace c3 := (Bw.cell (p := ⟨b', off' + j * 4 + 3, none⟩) hbl').trans c3
        have hxm : x ∈ kids := List.mem_of_getElem? hx
        have HIx := Lib.hid (HI.out x hxm)
        have HXt := Lib.hid (hat'.below Bw)
        have hxl : x.res.length ≤ Ty.partss kids := Nat.le_trans (Ty.res_len x) (Ty.parts_mem hxm)
        have HN := Lib.hid (show T ++ x.res = (if isNamed k = true then [n] else []) ++ (kids.take (j + 1)).flatMap Ty.res by rw [flat_next hx, HT.out, List.append_assoc])
        obtain ⟨t0, t1, t2, t3, t4, t5, t6, t7, ecs⟩ := Ty.form hat'
        simp only [List.cons.injEq, and_true] at ecs
        obtain ⟨rfl, rfl, rfl, rfl⟩ := ecs
        have HO2 := Lib.hid hO
        clear hat' hx hxm hO
        go_wp2_with fail
        refine (HIx.out _ _ (D.Ats.below HXt.out ((Below.refl _ _).alloc (Nat.le_refl _) _))).mono ?_
        rintro e w2 ⟨g2, cp2, rfl, ho2, hb2⟩
        have hO3 := own_below' (HO2.out.alloc _) hb2
        have hR3 := own_mono ho2 (show w.heap.size + 1 ≤ _ by simp; omega)
        have B2 := (Bw.alloc Bw.size _).trans (hb2.mono (Nat.le_trans Bw.size (by simp)))
        have f2 := Box.call (fA.alloc _) hb2
        have hbs2 : w.heap.size + 1 ≤ w2.heap.size := f2.lt
        have HB2 := Lib.hid (And.intro B2 f2)
        obtain ⟨X, hX⟩ : ∃ X, x.res = X := ⟨_, rfl⟩
        rw [hX] at hxl HN hR3 ⊢
        clear c0 c1 c2 c3 cc ho2 hb2 B2 f2 HIx HXt hX
        go_wp2_with (at_builtin; refine wpList_strs hO3 (by simp) X g2 X.length cp2 rfl hR3 (.tmp 27) (.tmp 29) (by omega) hbs2 ?_; intro g' c' w' ho' hb')
        have HB3 := Lib.hid (And.intro ho' (And.intro (HB2.out.2.under' hb' (Nat.lt_succ_self _)) (HB2.out.1.trans (hb'.mono (Nat.le_succ _)))))
        clear hO3 hR3 ho' hb'
        go_wp2
        go_roundw
        case rel => exact ⟨j + 1, g', c', T ++ X, by omega, by go_num, HN.out, by simp, by simpa using HB3.out.1, HB3.out.2⟩
        case measure => simp [intOf]; omega
      · obtain rfl : j = kids.length := by omega
        have HB2 := Lib.hid (And.intro hO Bw)
        clear hO
        have HQ := Lib.hid (show T = Ty.res (.mk k n l kids) by rw [HR.out, HT.out, List.take_length])
        go_wp2
        go_ret
        refine ⟨g, c, ?_, ?_, HB2.out.2⟩
        · exact congrArg (fun L : List ByteArray => Ending.returned (.slice (some ⟨g, 0, none⟩) L.length c)) HQ.out
        · rw [← HQ.out]; exact own_mono HB2.out.1 (Nat.le_succ _)
theorem resources_i (x : Ty) (hp : x.parts ≤ 1000000) : ResI x := by
  induction x using Ty.ind with
  | h k n l kids ih =>
    refine resources_at k n l kids hp (fun x hx => ih x hx ?_)
    rw [Ty.parts_mk] at hp
    have := Ty.parts_mem hx
    omega
end Go.Proofs.YtpfkhojhkjaafaaGreatDoor
namespace Go.Proofs.YtpfkhojhkjaafaaGreatDoor
open Go.RowKit

def FrRel (w : World) (ps : List Pa) (rs : List ByteArray) (cells : List Value) (v i : Value) (wr : World) : Prop :=
  ∃ (j g c : Nat) (T : List ByteArray), j ≤ ps.length ∧ i = .int .i64 j ∧ T = rs ++ (ps.take j).flatMap (fun p => p.ty.res) ∧ v = .slice (some ⟨g, 0, none⟩) T.length c ∧ wr.ownsRow (w.heap.size + 1) 9 1 v T.length (T.map Value.string) ∧
    Box wr w.heap.size 32 cells ∧ Below w.heap.size w wr
set_option maxHeartbeats 4000000 in
set_option maxRecDepth 20000 in
theorem funcResources_i (x : Fn) (cs : List Value) (w : World) (ok : fnOk x = true) (hcs : D.Ats w anyB x.ds cs) :
    Calls Tryz.prog 83 #[.agg cs.toArray] w fun e w' => ∃ g c, e = .returned (.slice (some ⟨g, 0, none⟩) (fnNames x).length c) ∧ w'.ownsRow w.heap.size 9 1 (.slice (some ⟨g, 0, none⟩) (fnNames x).length c) (fnNames x).length ((fnNames x).map Value.string) ∧ Below w.heap.size w w' := by
  obtain ⟨ps, res, aa⟩ := x
  obtain ⟨h6, hpar, hres, hrp⟩ := kn_fit ok
  obtain ⟨PA, cA, k, n, A1, m1, c1, A2, m2, c2, rfl, hp, hr⟩ := Fn.open_ hcs
  simp only at hp hr
  have HNM := Lib.hid (show fnNames ⟨ps, res, aa⟩ = res.res ++ ps.flatMap (fun p => p.ty.res) from rfl)
  have HP := Lib.hid hp
  have HF := Lib.hid hpar
  have hrl := Ty.res_len res
  obtain ⟨w0, hw0⟩ : ∃ w0, w0 = w.alloc (.cells #[.slice PA ps.length cA, .int .i64 k, .string n, .slice A1 m1 c1, .slice A2 m2 c2, .bool aa] 32) := ⟨_, rfl⟩
  have bA : Box w0 w.heap.size 32 [.slice PA ps.length cA, .int .i64 k, .string n, .slice A1 m1 c1, .slice A2 m2 c2, .bool aa] := by rw [hw0]; exact Box.new w _ _
  have B0 : Below w.heap.size w w0 := by rw [hw0]; exact (Below.refl _ _).alloc (Nat.le_refl _) _
  have s0 : w0.heap.size = w.heap.size + 1 := by rw [hw0]; simp
  have HX := Lib.hid (resources_i res (by omega) [.int .i64 k, .string n, .slice A1 m1 c1, .slice A2 m2 c2] w0 (hr.below B0))
  have HS0 := Lib.hid s0
  clear hcs hp hr ok hpar hres s0
  change Calls Tryz.prog 83 #[.agg #[.slice PA ps.length cA, .int .i64 k, .string n, .slice A1 m1 c1, .slice A2 m2 c2, .bool aa]] w _
  have kA := bA.cell
  go_enter Tryz.func83, Tryz.ntmps83
  go_upto_region 1 with fail
  rw [← hw0]
  clear hw0
  go_wp2_with fail
  refine HX.out.mono ?_
  rintro e w1 ⟨g1, c1', rfl, ho1, hb1⟩
  have B2 := B0.trans (hb1.mono B0.size)
  have bA1 := bA.call hb1
  have hst : FrRel w ps res.res [.slice PA ps.length cA, .int .i64 k, .string n, .slice A1 m1 c1, .slice A2 m2 c2, .bool aa] (.slice (some ⟨g1, 0, none⟩) res.res.length c1') (.int .i64 0) w1 :=
    ⟨0, g1, c1', res.res, Nat.zero_le _, rfl, by simp, rfl, own_mono ho1 (by rw [HS0.out]; exact Nat.le_refl _), bA1, B2⟩
  have HST := Lib.hid hst
  clear hst kA bA B0 ho1 hb1 HX
  have kA := bA1.cell
  clear bA1 B2
  go_wp2
  go_loopw [3, 5, 12] (fun v _ i wr => FrRel w ps res.res [.slice PA ps.length cA, .int .i64 k, .string n, .slice A1 m1 c1, .slice A2 m2 c2, .bool aa] v i wr) (fun _ _ i _ => ps.length - (intOf i).toNat)
  case atStart => exact HST.out
  case round =>
    obtain ⟨j, g, c, T, hj, rfl, hT, rfl, hO, fA, Bw⟩ := hrel
    have HT := Lib.hid hT
    have hTl : T.length ≤ 24 + 6 * 24 := by
      rw [hT, List.length_append]
      have h3 := names_len (ps.take j) (fun p hp => (HF.out p (List.mem_of_mem_take hp)).2)
      have h4 : (ps.take j).length ≤ 6 := by rw [List.length_take]; omega
      omega
    clear hT kA
    have hbs : w.heap.size + 1 ≤ wr.heap.size := fA.lt
    by_cases hlt : j < ps.length
    · obtain ⟨y, hy⟩ : ∃ y, ps[j]? = some y := ⟨ps[j], List.getElem?_eq_getElem hlt⟩
      have hk0 : (0 : Int) ≤ (j : Int) := by omega
      have hk1 : (j : Int) < (ps.length : Int) := by omega
      obtain ⟨b, off, u0, u1, u2, u3, u4, e, -, hbl, hat, d0, d1, d2, d3, d4⟩ := rows_at5 Pa.len (HP.out.below Bw) hy
      subst e
      obtain ⟨xk, xn, X1, xm, xc, X2, xm2, xc2, exx, -, hatx⟩ := Pa.open_ hat
      simp only [List.cons.injEq, and_true] at exx
      obtain ⟨rfl, rfl, rfl, rfl, rfl⟩ := exx
      obtain ⟨hys, hyp⟩ := HF.out y (List.mem_of_getElem? hy)
      have hxl : y.ty.res.length ≤ 24 := Nat.le_trans (Ty.res_len y.ty) hyp
      have HN := Lib.hid (show T ++ y.ty.res = res.res ++ (ps.take (j + 1)).flatMap (fun p => p.ty.res) by rw [names_next hy, HT.out, List.append_assoc])
      have bP : Below wr.heap.size wr (wr.alloc (.cells #[.string y.name, .int .i64 xk, .string xn, .slice X1 xm xc, .slice X2 xm2 xc2] 113)) := (Below.refl _ _).alloc (Nat.le_refl _) _
      have HX := Lib.hid (resources_i y.ty (by omega) [.int .i64 xk, .string xn, .slice X1 xm xc, .slice X2 xm2 xc2] _ (hatx.below bP))
      have HO2 := Lib.hid (own_below' hO bP)
      have HFA := Lib.hid (And.intro (fA.call bP) (Bw.trans (bP.mono Bw.size)))
      clear hy hat hatx hys hyp hO bP
      go_wp2_with fail
      refine HX.out.mono ?_
      rintro e w2 ⟨g2, cp2, rfl, ho2, hb2⟩
      have hO3 := own_below' HO2.out hb2
      have hR3 := own_mono ho2 (show w.heap.size + 1 ≤ _ by simp; omega)
      have f2 := HFA.out.1.call hb2
      have hbs2 : w.heap.size + 1 ≤ w2.heap.size := f2.lt
      have HB2 := Lib.hid (And.intro (HFA.out.2.trans (hb2.mono HFA.out.2.size)) f2)
      obtain ⟨X, hX⟩ : ∃ X, y.ty.res = X := ⟨_, rfl⟩
      rw [hX] at hxl HN hR3 ⊢
      clear d0 d1 d2 d3 d4 ho2 hb2 f2 HX hX
      go_wp2_with (at_builtin; refine wpList_strs hO3 (by simp) X g2 X.length cp2 rfl hR3 (.tmp 16) (.tmp 19) (by omega) hbs2 ?_; intro g' c' w' ho' hb')
      have HB3 := Lib.hid (And.intro ho' (And.intro (HB2.out.2.under' hb' (Nat.lt_succ_self _)) (HB2.out.1.trans (hb'.mono (Nat.le_succ _)))))
      clear hO3 hR3 ho' hb'
      go_wp2
      go_roundw
      case rel => exact ⟨j + 1, g', c', T ++ X, by omega, by go_num, HN.out, by simp, by simpa using HB3.out.1, HB3.out.2⟩
      case measure => simp [intOf]; omega
    · obtain rfl : j = ps.length := by omega
      have HB2 := Lib.hid (And.intro hO Bw)
      clear hO
      have HQ := Lib.hid (show T = fnNames ⟨ps, res, aa⟩ by rw [HNM.out, HT.out, List.take_length])
      go_wp2
      go_ret
      refine ⟨g, c, ?_, ?_, HB2.out.2⟩
      · exact congrArg (fun L : List ByteArray => Ending.returned (.slice (some ⟨g, 0, none⟩) L.length c)) HQ.out
      · rw [← HQ.out]; exact own_mono HB2.out.1 (Nat.le_succ _)
end Go.Proofs.YtpfkhojhkjaafaaGreatDoor
