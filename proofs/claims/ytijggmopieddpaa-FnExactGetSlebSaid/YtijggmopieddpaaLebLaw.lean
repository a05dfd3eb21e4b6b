/- GetLeb: what the program's and the reference's function compute, and the law. -/
import Derived.Test.YtijggmopieddpaaPutLeb
import Derived.Test.YtijggmopieddpaaStrs
import Derived.Test.YtijggmopieddpaaBits
import Derived.Lib.VarintBits
namespace Go.Proofs.Ytijggmopieddpaa
open Go.RowKit

/-- The number of digits to base 128. -/
def lebVal : List UInt8 → Nat
  | [] => 0
  | c :: r => c.toNat % 128 + 128 * lebVal r
/-- How many bytes the number at the head has, of so many at most; 0: there is none. -/
def lebLen : Nat → List UInt8 → Nat
  | 0, _ => 0
  | _ + 1, [] => 0
  | f + 1, c :: r => if c.toNat < 128 then 1 else if lebLen f r = 0 then 0 else lebLen f r + 1
/-- What GetLeb returns: value, bytes, whether there is one. -/
def getLeb (l : List UInt8) : Nat × Nat × Bool :=
  if lebLen 9 l = 0 then (0, 0, false)
  else if 1 < lebLen 9 l ∧ l.getD (lebLen 9 l - 1) 0 = 0 then (0, 0, false)
  else (lebVal (l.take (lebLen 9 l)), lebLen 9 l, true)

theorem lebVal_snoc (l : List UInt8) (c : UInt8) : lebVal (l ++ [c]) = lebVal l + c.toNat % 128 * 2 ^ (7 * l.length) := by
  induction l with
  | nil => simp [lebVal]
  | cons d r ih =>
    have e : 7 * (r.length + 1) = 7 * r.length + 7 := by omega
    simp only [List.cons_append, lebVal, ih, List.length_cons, e, Nat.pow_add, ← Nat.mul_assoc]
    omega
theorem lebVal_lt (l : List UInt8) : lebVal l < 2 ^ (7 * l.length) := by
  induction l with
  | nil => simp [lebVal]
  | cons d r ih =>
    have e : 7 * (r.length + 1) = 7 * r.length + 7 := by omega
    simp only [lebVal, List.length_cons, e, Nat.pow_add]
    omega
theorem lebLen_some {f : Nat} {l : List UInt8} {j : Nat} (hf : j < f) (hj : j < l.length) (hc : (l.getD j 0).toNat < 128) (hb : ∀ i, i < j → 128 ≤ (l.getD i 0).toNat) : lebLen f l = j + 1 := by
  induction j generalizing f l with
  | zero =>
    obtain ⟨f, rfl⟩ : ∃ g, f = g + 1 := ⟨f - 1, by omega⟩
    match l, hj with
    | c :: r, _ => simp at hc; simp [lebLen, hc]
  | succ j ih =>
    obtain ⟨f, rfl⟩ : ∃ g, f = g + 1 := ⟨f - 1, by omega⟩
    match l, hj with
    | c :: r, hj =>
      have h0 := hb 0 (by omega)
      simp at h0
      have h1 := ih (f := f) (l := r) (by omega) (by simpa using hj) (by simpa using hc) (fun i hi => by simpa using hb (i + 1) (by omega))
      rw [lebLen, if_neg (by omega), if_neg (by omega), h1]
theorem lebLen_none {f : Nat} {l : List UInt8} (hb : ∀ i, i < f → i < l.length → 128 ≤ (l.getD i 0).toNat) : lebLen f l = 0 := by
  induction f generalizing l with
  | zero => rfl
  | succ f ih =>
    match l with
    | [] => rfl
    | c :: r =>
      have h0 := hb 0 (by omega) (by simp)
      simp at h0
      have h1 := ih (l := r) (fun i hi hl => by simpa using hb (i + 1) (by omega) (by simpa using hl))
      rw [lebLen, if_neg (by omega), if_pos h1]
/-- The encoding of the value is the text itself, unless the last of several bytes is 0. -/
theorem leb_lebVal (t : List UInt8) (c : UInt8) (ht : ∀ d ∈ t, 128 ≤ d.toNat) (hc : c.toNat < 128) : leb (lebVal (t ++ [c])) = t ++ [c] ↔ (t = [] ∨ c.toNat ≠ 0) := by
  induction t with
  | nil =>
    have : lebVal ([] ++ [c]) = c.toNat := by simp [lebVal]; omega
    rw [this, leb, if_neg (by omega)]
    simp
  | cons d t ih =>
    have hd := ht d (by simp)
    have hd2 := d.toNat_lt
    have ih := ih (fun x hx => ht x (by simp [hx]))
    have e : lebVal (d :: t ++ [c]) = d.toNat % 128 + 128 * lebVal (t ++ [c]) := rfl
    rw [e]
    by_cases hm : lebVal (t ++ [c]) = 0
    · rw [hm, leb, if_neg (by omega)]
      constructor
      · intro h
        have := congrArg List.length h
        simp at this
      · rintro (h | h)
        · simp at h
        · have := lebVal_snoc t c
          have hp : 0 < 2 ^ (7 * t.length) := Nat.pow_pos (by decide)
          have : 0 < c.toNat % 128 * 2 ^ (7 * t.length) := Nat.mul_pos (by omega) hp
          omega
    · rw [leb, if_pos (by omega)]
      have e1 : (d.toNat % 128 + 128 * lebVal (t ++ [c])) / 128 = lebVal (t ++ [c]) := by omega
      have e2 : UInt8.ofNat ((d.toNat % 128 + 128 * lebVal (t ++ [c])) % 128 + 128) = d := by
        apply UInt8.toNat_inj.1
        simp
        omega
      rw [e1, e2]
      constructor
      · intro h
        right
        intro h0
        have h' : leb (lebVal (t ++ [c])) = t ++ [c] := by simpa using h
        rcases ih.1 h' with rfl | h1
        · simp [lebVal] at hm; omega
        · exact h1 h0
      · rintro (h | h)
        · simp at h
        · rw [ih.2 (.inr h)]; rfl
theorem leb_step (l : List UInt8) (c : UInt8) (h : l.length < 9) : (lebVal l : Int) < 9223372036854775808 ∧
    bits .or .u64 (lebVal l) (IntKind.u64.wrap (IntKind.u64.wrap ((c.toNat : Int) % 128) * 2 ^ (7 * l.length))) = (lebVal (l ++ [c]) : Int) ∧
    bits .or .i64 (lebVal l) (wrap64 (wrap64 ((c.toNat : Int) % 128) * 2 ^ (7 * l.length))) = (lebVal (l ++ [c]) : Int) := by
  have h1 := lebVal_lt l
  have h2 := lebVal_lt (l ++ [c])
  have h3 := lebVal_snoc l c
  have hp : (2 : Nat) ^ (7 * l.length) ≤ 2 ^ 63 := Nat.pow_le_pow_right (by decide) (by omega)
  have hp2 : (2 : Nat) ^ (7 * (l ++ [c]).length) ≤ 2 ^ 63 := Nat.pow_le_pow_right (by decide) (by simp; omega)
  generalize lebVal (l ++ [c]) = b at *
  generalize lebVal l = a at *
  have e0 : (c.toNat : Int) % 128 = ((c.toNat % 128 : Nat) : Int) := by omega
  have hc : c.toNat % 128 < 128 := by omega
  rw [e0]
  generalize c.toNat % 128 = d at *
  generalize l.length = k at *
  have h4 : (a : Int) < 2 ^ (7 * k) := by exact_mod_cast h1
  have e : (a : Int) + ((d * 2 ^ (7 * k) : Nat) : Int) = (b : Int) := by rw [h3]; push_cast; rfl
  have em : (d : Int) * 2 ^ (7 * k) = ((d * 2 ^ (7 * k) : Nat) : Int) := by push_cast; rfl
  have hz : ((d * 2 ^ (7 * k) : Nat) : Int) % 2 ^ (7 * k) = 0 := by push_cast; exact Int.mul_emod_left _ _
  refine ⟨by omega, ?_, ?_⟩
  · rw [show IntKind.u64.wrap (d : Int) = d by rw [IntKind.wrap_u64]; omega, em, show IntKind.u64.wrap ((d * 2 ^ (7 * k) : Nat) : Int) = ((d * 2 ^ (7 * k) : Nat) : Int) by rw [IntKind.wrap_u64]; omega,
      bits_or_apart .u64 (7 * k) _ _ (by show _ ≤ 64; omega) _ hz, e, IntKind.wrap_u64]
    · omega
    · show (a : Int) % 2 ^ 64 < _
      omega
  · rw [show wrap64 (d : Int) = d by simp only [wrap64]; omega, em, show wrap64 ((d * 2 ^ (7 * k) : Nat) : Int) = ((d * 2 ^ (7 * k) : Nat) : Int) by simp only [wrap64]; omega,
      or_i64_apart (7 * k) _ _ (by omega) _ hz, e]
    · simp only [wrap64]; omega
    · omega
end Go.Proofs.Ytijggmopieddpaa
