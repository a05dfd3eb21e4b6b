/- Tokens: all of a source, in plain words. No program in sight but the token's place. -/
import Derived.Test.YtofihcahimdbhaaTokS
import Derived.Test.YtofihcahimdbhaaTyM
namespace Go.Proofs.Ytofihcahimdbhaa
open Go.RowKit Go.PlainAid

theorem skipF_le (s : ByteArray) (f i : Nat) (l : Int) (hi : i ≤ s.size) : i ≤ (skipF s f i l).1 ∧ (skipF s f i l).1 ≤ s.size ∧ l ≤ (skipF s f i l).2 ∧ (skipF s f i l).2 ≤ l + ((skipF s f i l).1 - i : Nat) := by
  induction f generalizing i l with
  | zero => simp [skipF]; exact hi
  | succ f ih =>
    rw [skipF]
    by_cases h : i < s.size
    · rw [if_pos h]
      split
      · have := ih (i + 1) (l + 1) (by omega); omega
      · split
        · have := ih (i + 1) l (by omega); omega
        · split
          · rename_i hc
            have h1 := cmt_scan h hc
            have h2 := scan_le (p := lineAt s) hi
            have := ih (scan (lineAt s) s.size i) l h2.2
            omega
          · simp; exact hi
    · rw [if_neg h]; simp; exact hi
theorem skipT_le {s : ByteArray} {i : Nat} {l : Int} (hi : i ≤ s.size) : i ≤ (skipT s i l).1 ∧ (skipT s i l).1 ≤ s.size ∧ l ≤ (skipT s i l).2 ∧ (skipT s i l).2 ≤ l + ((skipT s i l).1 - i : Nat) := skipF_le s _ i l hi
theorem lexE_le {s : ByteArray} {i : Nat} (h : i < s.size) (h0 : lexE s i ≠ 0) : i + 1 ≤ lexE s i ∧ lexE s i ≤ s.size := by
  have e : decide (i + 1 < s.size) = true → i + 2 ≤ s.size := fun h => by rw [decide_eq_true_eq] at h; omega
  unfold lexE at h0 ⊢
  split
  · rename_i hl
    have hw : wordAt s i = true := by simp [wordAt, alnB, hl]
    rw [scan_yes h hw]
    exact scan_le (by omega)
  · split
    · rename_i hd
      have hw : numAt s i = true := by simp [numAt, hd]
      rw [scan_yes h hw]
      exact scan_le (by omega)
    · split
      · rename_i ha
        unfold arrAt at ha
        simp only [Bool.and_eq_true] at ha
        have := e ha.2.1
        omega
      · split
        · omega
        · rename_i h1 h2 h3 h4
          simp [h1, h2, h3, h4] at h0
/-- All the tokens behind a place; what went wrong. -/
def toksF (s : ByteArray) : Nat → Nat → Int → List Tok → List Tok × Int × Int
  | 0, _, q, acc => (acc ++ [⟨4, ⟨#[]⟩, q⟩], 0, 0)
  | f + 1, k, q, acc => if k < s.size then (if lexE s k = 0 then ([], q, 6) else if acc.length = 4000 then ([], q, 4) else toksF s f (skipT s (lexE s k) q).1 (skipT s (lexE s k) q).2 (acc ++ [⟨lexK s k, lexT s k, q⟩])) else (acc ++ [⟨4, ⟨#[]⟩, q⟩], 0, 0)
theorem toksF_more (s : ByteArray) (f g k : Nat) (q : Int) (acc : List Tok) (hf : s.size - k ≤ f) (hg : s.size - k ≤ g) : toksF s f k q acc = toksF s g k q acc := by
  induction f generalizing g k q acc with
  | zero =>
    cases g with
    | zero => rfl
    | succ g => rw [toksF, toksF, if_neg (by omega)]
  | succ f ih =>
    cases g with
    | zero => rw [toksF, toksF, if_neg (by omega)]
    | succ g =>
      rw [toksF, toksF]
      by_cases h : k < s.size
      · rw [if_pos h, if_pos h]
        split
        · rfl
        · rename_i h0
          split
          · rfl
          · have h1 := lexE_le h h0
            have h2 := skipT_le (s := s) (l := q) h1.2
            exact ih g _ _ _ (by omega) (by omega)
      · rw [if_neg h, if_neg h]
def toks (s : ByteArray) (k : Nat) (q : Int) (acc : List Tok) : List Tok × Int × Int := toksF s (s.size - k) k q acc
theorem toks_stop {s : ByteArray} {k : Nat} {q : Int} {acc : List Tok} (h : ¬ k < s.size) : toks s k q acc = (acc ++ [⟨4, ⟨#[]⟩, q⟩], 0, 0) := by
  unfold toks
  rw [show s.size - k = 0 by omega]
  rfl
theorem toks_step {s : ByteArray} {k : Nat} {q : Int} {acc : List Tok} (h : k < s.size) : toks s k q acc = if lexE s k = 0 then ([], q, 6) else if acc.length = 4000 then ([], q, 4) else toks s (skipT s (lexE s k) q).1 (skipT s (lexE s k) q).2 (acc ++ [⟨lexK s k, lexT s k, q⟩]) := by
  have h0 : toks s k q acc = toksF s (s.size - k + 1) k q acc := toksF_more s _ _ k q acc (Nat.le_refl _) (by omega)
  rw [h0, toksF, if_pos h]
  split
  · rfl
  · rename_i hz
    split
    · rfl
    · have h1 := lexE_le h hz
      have h2 := skipT_le (s := s) (l := q) h1.2
      exact toksF_more s _ _ _ _ _ (by omega) (Nat.le_refl _)
/-- The tokens of a source. -/
def tokensR (s : ByteArray) : List Tok × Int × Int := if s.size ≤ 30000 then toks s (skipT s 0 1).1 (skipT s 0 1).2 [] else ([], 0, 4)
end Go.Proofs.Ytofihcahimdbhaa
