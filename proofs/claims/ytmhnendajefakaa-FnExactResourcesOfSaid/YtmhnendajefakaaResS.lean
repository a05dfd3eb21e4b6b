/- The reference puts a text into a row: draft. -/
import Derived.Test.YtmhnendajefakaaResP
import Derived.Test.YtmhnendajefakaaAppS
namespace Go.Proofs.Ytmhnendajefakaa
open Go.RowKit

def ltB (x y : ByteArray) : Bool := decide (x.data.toList < y.data.toList)
def putB (s : ByteArray) : List ByteArray → List ByteArray
  | [] => [s]
  | x :: r => if sameS x s = true then x :: r else if ltB s x = true then s :: x :: r else x :: putB s r
theorem putB_putT (s : ByteArray) (l : List ByteArray) : (putB s l).map (·.data.toList) = putT s.data.toList (l.map (·.data.toList)) := by
  induction l with
  | nil => rfl
  | cons x r ih =>
    unfold putB
    rw [List.map_cons]
    unfold putT
    by_cases h : sameS x s = true
    · rw [if_pos h, if_pos ((sameS_iff x s).1 h)]; rfl
    · rw [if_neg h, if_neg (fun e => h ((sameS_iff x s).2 e))]
      by_cases h2 : s.data.toList < x.data.toList
      · rw [if_pos (show ltB s x = true from decide_eq_true h2), if_pos h2]; rfl
      · rw [if_neg (show ¬ ltB s x = true by unfold ltB; rw [decide_eq_true_eq]; exact h2), if_neg h2, List.map_cons, ih]
/-- Between two rounds: out so far, and whether the text stands in it. -/
def PutTo (s : ByteArray) (l : List ByteArray) (k : Nat) (O : List ByteArray) (p : Bool) : Prop := O ++ (if p = true then l.drop k else putB s (l.drop k)) = putB s l
theorem PutTo.zero (s : ByteArray) (l : List ByteArray) : PutTo s l 0 [] false := by simp [PutTo]
theorem PutTo.next1 {s : ByteArray} {l O : List ByteArray} {k : Nat} {x : ByteArray} (h : PutTo s l k O true) (hx : l[k]? = some x) : PutTo s l (k + 1) (O ++ [x]) true := by
  unfold PutTo at h ⊢
  rw [List.drop_eq_getElem?_toList_append, hx] at h
  simpa using h
theorem PutTo.next2 {s : ByteArray} {l O : List ByteArray} {k : Nat} {x : ByteArray} (h : PutTo s l k O false) (hx : l[k]? = some x) (hs : sameS x s = true) : PutTo s l (k + 1) (O ++ [x]) true := by
  unfold PutTo at h ⊢
  rw [List.drop_eq_getElem?_toList_append, hx] at h
  simp [putB, hs] at h
  simpa using h
theorem PutTo.next3 {s : ByteArray} {l O : List ByteArray} {k : Nat} {x : ByteArray} (h : PutTo s l k O false) (hx : l[k]? = some x) (hs : sameS x s = false) (hl : ltB s x = true) : PutTo s l (k + 1) (O ++ [s] ++ [x]) true := by
  unfold PutTo at h ⊢
  rw [List.drop_eq_getElem?_toList_append, hx] at h
  simp [putB, hs, hl] at h
  simpa using h
theorem PutTo.next4 {s : ByteArray} {l O : List ByteArray} {k : Nat} {x : ByteArray} (h : PutTo s l k O false) (hx : l[k]? = some x) (hs : sameS x s = false) (hl : ltB s x = false) : PutTo s l (k + 1) (O ++ [x]) false := by
  unfold PutTo at h ⊢
  rw [List.drop_eq_getElem?_toList_append, hx] at h
  simp [putB, hs, hl] at h
  simpa using h
theorem PutTo.end1 {s : ByteArray} {l O : List ByteArray} (h : PutTo s l l.length O true) : O = putB s l := by
  unfold PutTo at h; simpa using h
theorem PutTo.end2 {s : ByteArray} {l O : List ByteArray} (h : PutTo s l l.length O false) : O ++ [s] = putB s l := by
  unfold PutTo at h; simpa [putB] using h
end Go.Proofs.Ytmhnendajefakaa
