/- Plain laws of UTF-8: the reference's way to read a code point is Go's. -/
import Derived.Test.YtcpadaelgdmipaaGreatDoorUtf
import Derived.Lib.ValidLaws
import Derived.Lib.DecodeN
import Derived.Lib.TrimUEq
namespace Go.Proofs.YtcpadaelgdmipaaGreatDoor
open Go.RowKit Go.Lib

def charOk (n : Int) : Bool := inR 0 n 55295 || inR 57344 n 1114111
def charN (v : Nat) : Prop := v ≤ 55295 ∨ 57344 ≤ v ∧ v ≤ 1114111
def chrN (n : Nat) : List Nat :=
  if n < 128 then [n]
  else if n < 2048 then [192 + n / 64, 128 + n % 64]
  else if n < 65536 then [224 + n / 4096, 128 + n / 64 % 64, 128 + n % 64]
  else [240 + n / 262144, 128 + n / 4096 % 64, 128 + n / 64 % 64, 128 + n % 64]
theorem chr_chrN (n : Nat) : chr n = (chrN n).map UInt8.ofNat := by
  unfold chr chrN
  by_cases h1 : n < 128
  · rw [if_pos h1, if_pos h1]; rfl
  rw [if_neg h1, if_neg h1]
  by_cases h2 : n < 2048
  · rw [if_pos h2, if_pos h2]; rfl
  rw [if_neg h2, if_neg h2]
  by_cases h3 : n < 65536
  · rw [if_pos h3, if_pos h3]; rfl
  rw [if_neg h3, if_neg h3]; rfl
def ptN (m b0 b1 b2 b3 : Nat) : Nat := if m = 1 then b0 else if m = 2 then (b0 - 192) * 64 + b1 % 64 else if m = 3 then ((b0 - 224) * 64 + b1 % 64) * 64 + b2 % 64 else (((b0 - 240) * 64 + b1 % 64) * 64 + b2 % 64) * 64 + b3 % 64
def Lead (m b0 : Nat) : Prop := m = 1 ∧ b0 < 192 ∨ m = 2 ∧ 192 ≤ b0 ∧ b0 < 224 ∨ m = 3 ∧ 224 ≤ b0 ∧ b0 < 240 ∨ m = 4 ∧ 240 ≤ b0
set_option maxHeartbeats 4000000 in
theorem pt_good {n m b0 b1 b2 b3 : Nat} (h0 : b0 < 256) (_h1 : b1 < 256) (_h2 : b2 < 256) (_h3 : b3 < 256) (hl : Lead m b0) (hn : m ≤ n) (hc : charN (ptN m b0 b1 b2 b3)) (he : chrN (ptN m b0 b1 b2 b3) = [b0, b1, b2, b3].take m) :
    (decodeN n b0 b1 b2 b3).2 = m ∧ ¬ ((decodeN n b0 b1 b2 b3).1 = 65533 ∧ (decodeN n b0 b1 b2 b3).2 = 1) := by
  unfold charN at hc
  rcases hl with ⟨rfl, hl⟩ | ⟨rfl, hl, hl'⟩ | ⟨rfl, hl, hl'⟩ | ⟨rfl, hl⟩ <;> simp only [ptN] at hc he <;> simp at hc he <;> unfold chrN at he <;> unfold decodeN <;> (repeat' split at he) <;> simp at he <;> (repeat' split) <;> simp <;> omega
set_option maxHeartbeats 4000000 in
theorem pt_val {n m b0 b1 b2 b3 : Nat} (h0 : b0 < 256) (_h1 : b1 < 256) (_h2 : b2 < 256) (_h3 : b3 < 256) (hl : Lead m b0) (hn : m ≤ n) (hc : charN (ptN m b0 b1 b2 b3)) (he : chrN (ptN m b0 b1 b2 b3) = [b0, b1, b2, b3].take m) :
    (decodeN n b0 b1 b2 b3).1 = ptN m b0 b1 b2 b3 := by
  unfold charN at hc
  rcases hl with ⟨rfl, hl⟩ | ⟨rfl, hl, hl'⟩ | ⟨rfl, hl, hl'⟩ | ⟨rfl, hl⟩ <;> simp only [ptN] at hc he ⊢ <;> simp at hc he ⊢ <;> unfold chrN at he <;> unfold decodeN <;> (repeat' split at he) <;> simp at he <;> (repeat' split) <;> simp <;> omega
set_option maxHeartbeats 4000000 in
theorem pt_bad {n m b0 b1 b2 b3 : Nat} (hn : 1 ≤ n) (h0 : b0 < 256) (h1 : b1 < 256) (_h2 : b2 < 256) (_h3 : b3 < 256) (hl : Lead m b0) (hc : ¬ (m ≤ n ∧ charN (ptN m b0 b1 b2 b3) ∧ chrN (ptN m b0 b1 b2 b3) = [b0, b1, b2, b3].take m)) :
    decodeN n b0 b1 b2 b3 = (65533, 1) := by
  unfold charN at hc
  unfold decodeN
  repeat' split
  all_goals first
    | rfl
    | (exfalso; apply hc; rcases hl with ⟨rfl, hl⟩ | ⟨rfl, hl, hl'⟩ | ⟨rfl, hl, hl'⟩ | ⟨rfl, hl⟩ <;> first
        | (exfalso; omega)
        | (refine ⟨by omega, by simp only [ptN]; simp; omega, ?_⟩; simp only [ptN]; simp; unfold chrN; (repeat' split) <;> simp <;> omega))
/-- How many bytes the first code point has; 0: none. -/
def ptW (s : ByteArray) : Nat := if (decodeL s.data.toList).1 = 65533 ∧ (decodeL s.data.toList).2 = 1 then 0 else (decodeL s.data.toList).2
def RetPt (s : ByteArray) (w : World) (e : Ending) (w' : World) : Prop := ∃ n : Int, (ptW s ≠ 0 → n = ((decodeL s.data.toList).1 : Int)) ∧ e = .returned (.tuple #[.int .i64 n, .int .i64 (ptW s)]) ∧ Below w.heap.size w w'
end Go.Proofs.YtcpadaelgdmipaaGreatDoor
