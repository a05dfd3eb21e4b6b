/- PutFix: what the program's and the reference's function compute, and the law. -/
import Derived.Test.YtocgaafompggfaaNums
import Derived.Test.YtocgaafompggfaaBits
namespace Go.Proofs.Ytocgaafompggfaa
open Go.RowKit

/-- The least significant bytes. -/
def fixBytes : Nat → Int → List UInt8
  | 0, _ => []
  | k + 1, n => UInt8.ofNat (n % 256).toNat :: fixBytes k (n / 256)
theorem fixBytes_len (k : Nat) (n : Int) : (fixBytes k n).length = k := by
  induction k generalizing n with
  | zero => rfl
  | succ k ih => simp [fixBytes, ih]

theorem i64_and255 (n : Int) : bits .and .i64 n 255 = n % 256 := by
  have h255 : (BitVec.ofInt 64 255).toNat = 2 ^ 8 - 1 := by decide
  have key : (BitVec.ofInt 64 n &&& BitVec.ofInt 64 255).toNat = (n % ((2 ^ 64 : Nat) : Int)).toNat % 2 ^ 8 := by
    rw [BitVec.toNat_and, BitVec.toNat_ofInt, h255, Nat.and_two_pow_sub_one_eq_mod]
  show IntKind.i64.wrap ((BitVec.ofInt 64 n &&& BitVec.ofInt 64 255).toNat : Nat) = n % 256
  rw [key, IntKind.wrap_i64]
  omega

def putFix (m q : Int) : List UInt8 := if inR 0 q 8 = true then fixBytes q.toNat m else []

set_option maxHeartbeats 400000 in
theorem putFix_s (m q : Int) (h1 : -9223372036854775808 ≤ m) (h2 : m ≤ 9223372036854775807) (w : World) :
    Calls Try.prog 30 #[.int .i64 m, .int .i64 q] w fun e w' => e = .returned (.string ⟨(putFix m q).toArray⟩) ∧ Below w.heap.size w w' := by
  cases hq : inR 0 q 8
  · have hq' := inR_not.1 hq
    have hp : putFix m q = [] := by rw [putFix, if_neg (by rw [hq]; decide)]
    rw [hp]
    go_enter Try.func30, Try.ntmps30
    go_wp2
    go_loop [5, 6] (fun b j => b = .slice (some ⟨w.heap.size, 0, none⟩) 0 0 ∧ j = .int .i64 0) (fun _ _ => 0)
    case atStart => exact ⟨rfl, rfl⟩
    case round =>
      obtain ⟨rfl, rfl⟩ := hrel
      have ho : (w.alloc (.cells #[] 5)).ownsRow w.heap.size 5 1 (.slice (some ⟨w.heap.size, 0, none⟩) 0 0) 0 (([] : List UInt8).map bv) := World.ownsRow_lit _ _ _ (Nat.le_refl _) (by simp) (by simp)
      have hcv := own_string ho
      by_cases h0 : 0 < q
      all_goals
        go_wp2_with (go_at_call 38; refine (l00In_any _ _ _ _).mono ?_; rintro e w1 ⟨rfl, rfl⟩)
        go_ret
        exact ⟨rfl, (Below.refl _ _).alloc (Nat.le_refl _) _⟩
  · have hq' := inR_iff.1 hq
    have hp : putFix m q = fixBytes q.toNat m := by rw [putFix, if_pos hq]
    rw [hp]
    obtain ⟨Q, rfl⟩ := Int.eq_ofNat_of_zero_le hq'.1
    have hQ : (Q : Int) ≤ 8 := hq'.2
    clear hq' hp
    rw [Int.toNat_natCast]
    go_enter Try.func30, Try.ntmps30
    go_wp2
    go_loopw [0, 5, 6] (fun n b j wr => ∃ (x : Int) (l : List UInt8), n = .int .i64 x ∧ j = .int .i64 l.length ∧ l.length ≤ Q ∧ -9223372036854775808 ≤ x ∧ x ≤ 9223372036854775807 ∧ fixBytes Q m = l ++ fixBytes (Q - l.length) x ∧ wr.ownsRow w.heap.size 5 1 b l.length (l.map bv) ∧ Below w.heap.size w wr)
      (fun _ _ j _ => Q - (intOf j).toNat)
    case atStart => exact ⟨m, [], rfl, rfl, by simp, h1, h2, by simp, World.ownsRow_lit _ _ _ (Nat.le_refl _) (by simp) (by simp), (Below.refl _ _).alloc (Nat.le_refl _) _⟩
    case round =>
      obtain ⟨x, l, rfl, rfl, hlQ, hx1, hx2, hl, hown, hb⟩ := hrel
      have HL := Lib.hid hl
      clear hl
      have hand := i64_and255 x
      have hb1 : 0 ≤ x % 256 := by omega
      have hb2 : x % 256 < 256 := by omega
      by_cases hlt : l.length < Q
      · go_wp2_with (first
          | (at_builtin; refine wpList_byte hown (UInt8.ofNat (x % 256).toNat) (by simp; omega) (.tmp 17) (.tmp 21) (by omega) hb.size ?_; intro v' w' ho' hb')
          | (go_at_call 38; refine (l00In_any _ _ _ _).mono ?_; rintro e w1 ⟨rfl, rfl⟩))
        go_roundw
        case rel =>
          refine ⟨x / 256, l ++ [UInt8.ofNat (x % 256).toNat], by go_num, by simp, by simp; omega, by omega, by omega, ?_, by simpa using ho', hb.trans hb'⟩
          rw [HL.out, show Q - l.length = (Q - (l.length + 1)) + 1 by omega, fixBytes]
          simp
        case measure => simp [intOf]; omega
      · have hcv := own_string hown
        go_wp2_with (go_at_call 38; refine (l00In_any _ _ _ _).mono ?_; rintro e w1 ⟨rfl, rfl⟩)
        go_ret
        refine ⟨?_, hb⟩
        rw [HL.out, show Q - l.length = 0 by omega, fixBytes, List.append_nil]
        rfl
set_option maxHeartbeats 400000 in
theorem putFix0_i (m : Int) (Q : Nat) (hQ : (Q : Int) ≤ 8) (h1 : -9223372036854775808 ≤ m) (h2 : m ≤ 9223372036854775807) (w : World) :
    Calls Try.prog 41 #[.int .i64 m, .int .i64 Q] w fun e w' => e = .returned (.string ⟨(fixBytes Q m).toArray⟩) ∧ Below w.heap.size w w' := by
    go_enter Try.func41, Try.ntmps41
    go_wp2
    go_loopw [0, 5, 8] (fun n b j wr => ∃ (x : Int) (l : List UInt8), n = .int .i64 x ∧ j = .int .i64 l.length ∧ l.length ≤ Q ∧ -9223372036854775808 ≤ x ∧ x ≤ 9223372036854775807 ∧ fixBytes Q m = l ++ fixBytes (Q - l.length) x ∧ wr.ownsRow w.heap.size 5 1 b l.length (l.map bv) ∧ Below w.heap.size w wr)
      (fun _ _ j _ => Q - (intOf j).toNat)
    case atStart => exact ⟨m, [], rfl, rfl, by simp, h1, h2, by simp, World.ownsRow_lit _ _ _ (Nat.le_refl _) (by simp) (by simp), (Below.refl _ _).alloc (Nat.le_refl _) _⟩
    case round =>
      obtain ⟨x, l, rfl, rfl, hlQ, hx1, hx2, hl, hown, hb⟩ := hrel
      have HL := Lib.hid hl
      clear hl
      have hb1 : 0 ≤ x % 256 := by omega
      have hb2 : x % 256 < 256 := by omega
      by_cases hlt : l.length < Q
      · go_wp2_with (at_builtin; refine wpList_byte hown (UInt8.ofNat (x % 256).toNat) (by simp; omega) (.tmp 10) (.tmp 13) (by omega) hb.size ?_; intro v' w' ho' hb')
        go_roundw
        case rel =>
          refine ⟨x / 256, l ++ [UInt8.ofNat (x % 256).toNat], by go_num, by simp, by simp; omega, by omega, by omega, ?_, by simpa using ho', hb.trans hb'⟩
          rw [HL.out, show Q - l.length = (Q - (l.length + 1)) + 1 by omega, fixBytes]
          simp
        case measure => simp [intOf]; omega
      · have hcv := own_string hown
        go_wp2
        go_ret
        refine ⟨?_, hb⟩
        rw [HL.out, show Q - l.length = 0 by omega, fixBytes, List.append_nil]
        rfl
theorem putFix_i (m q : Int) (h1 : -9223372036854775808 ≤ m) (h2 : m ≤ 9223372036854775807) (w : World) :
    Calls Try.prog 31 #[.int .i64 m, .int .i64 q] w fun e w' => e = .returned (.string ⟨(putFix m q).toArray⟩) ∧ Below w.heap.size w w' := by
  cases hq : inR 0 q 8
  · have hp : putFix m q = [] := by rw [putFix, if_neg (by rw [hq]; decide)]
    rw [hp]
    go_enter Try.func31, Try.ntmps31
    go_wp2_with (go_at_call 39; refine (within_any _ _ _ _).mono ?_; rintro e w1 ⟨rfl, rfl⟩)
    go_ret
    exact ⟨rfl, Below.refl _ _⟩
  · have hq' := inR_iff.1 hq
    have hp : putFix m q = fixBytes q.toNat m := by rw [putFix, if_pos hq]
    rw [hp]
    obtain ⟨Q, rfl⟩ := Int.eq_ofNat_of_zero_le hq'.1
    have hQ : (Q : Int) ≤ 8 := hq'.2
    clear hq' hp
    rw [Int.toNat_natCast]
    go_enter Try.func31, Try.ntmps31
    go_wp2_with (first
      | (go_at_call 39; refine (within_any _ _ _ _).mono ?_; rintro e w1 ⟨rfl, rfl⟩)
      | (go_at_call 41; refine (putFix0_i m Q hQ h1 h2 _).mono ?_; rintro e w1 ⟨rfl, hb⟩))
    go_ret
    exact ⟨rfl, hb⟩
theorem law_FnExactPutFix (n : Int) (hn : (Lit.int .i64 n).wf = true) (q : Int) (_ : (Lit.int .i64 q).wf = true) (w : World) :
    Calls Try.prog 11 #[.int .i64 n, .int .i64 q] w fun e w' => e = .returned (.bool true) ∧ Below w.heap.size w w' := by
  obtain ⟨h1, h2⟩ := bounds_i64 hn
  go_enter Try.func11, Try.ntmps11
  go_wp2_with (first
    | (go_at_call 30; refine (putFix_s n q h1 h2 _).mono ?_; rintro e w1 ⟨rfl, hb1⟩)
    | (go_at_call 31; refine (putFix_i n q h1 h2 _).mono ?_; rintro e w2 ⟨rfl, hb2⟩))
  go_ret
  exact ⟨rfl, hb1.trans (hb2.mono hb1.size)⟩
end Go.Proofs.Ytocgaafompggfaa
