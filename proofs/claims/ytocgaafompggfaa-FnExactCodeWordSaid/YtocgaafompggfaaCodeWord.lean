/- CodeWord: what the program's and the reference's function compute, and the law. -/
import Derived.Test.YtocgaafompggfaaNums
namespace Go.Proofs.Ytocgaafompggfaa
open Go.RowKit

def codeWords : Array ByteArray := #[⟨#[111, 107]⟩, ⟨#[102, 111, 114, 109]⟩, ⟨#[114, 97, 110, 103, 101]⟩, ⟨#[110, 111, 110, 101]⟩, ⟨#[109, 97, 110, 121]⟩, ⟨#[115, 116, 97, 116, 101]⟩, ⟨#[112, 97, 114, 115, 101]⟩, ⟨#[116, 121, 112, 101]⟩, ⟨#[116, 114, 97, 112]⟩, ⟨#[102, 117, 101, 108]⟩, ⟨#[109, 101, 109, 111, 114, 121]⟩, ⟨#[104, 97, 110, 100, 108, 101]⟩, ⟨#[108, 101, 110, 116]⟩, ⟨#[99, 121, 99, 108, 101]⟩, ⟨#[118, 101, 114, 115, 105, 111, 110]⟩, ⟨#[114, 105, 103, 104, 116]⟩, ⟨#[101, 110, 116, 101, 114]⟩, ⟨#[99, 97, 110, 99, 101, 108]⟩, ⟨#[114, 101, 97, 100]⟩, ⟨#[116, 101, 120, 116]⟩]
def codeAt (k : Nat) : ByteArray := codeWords.getD k ⟨#[]⟩
def codeWord (n : Int) : ByteArray := if inR 0 n 19 = true then codeAt n.toNat else ⟨#[]⟩
theorem codeWords_at (k : Nat) (h : k < 20) : ([.string ⟨#[111, 107]⟩, .string ⟨#[102, 111, 114, 109]⟩, .string ⟨#[114, 97, 110, 103, 101]⟩, .string ⟨#[110, 111, 110, 101]⟩, .string ⟨#[109, 97, 110, 121]⟩, .string ⟨#[115, 116, 97, 116, 101]⟩, .string ⟨#[112, 97, 114, 115, 101]⟩, .string ⟨#[116, 121, 112, 101]⟩, .string ⟨#[116, 114, 97, 112]⟩, .string ⟨#[102, 117, 101, 108]⟩, .string ⟨#[109, 101, 109, 111, 114, 121]⟩, .string ⟨#[104, 97, 110, 100, 108, 101]⟩, .string ⟨#[108, 101, 110, 116]⟩, .string ⟨#[99, 121, 99, 108, 101]⟩, .string ⟨#[118, 101, 114, 115, 105, 111, 110]⟩, .string ⟨#[114, 105, 103, 104, 116]⟩, .string ⟨#[101, 110, 116, 101, 114]⟩, .string ⟨#[99, 97, 110, 99, 101, 108]⟩, .string ⟨#[114, 101, 97, 100]⟩, .string ⟨#[116, 101, 120, 116]⟩] : List Value)[k]? = some (.string (codeAt k)) := by
  match k, h with
  | 0, _ | 1, _ | 2, _ | 3, _ | 4, _ | 5, _ | 6, _ | 7, _ | 8, _ | 9, _ | 10, _ | 11, _ | 12, _ | 13, _ | 14, _ | 15, _ | 16, _ | 17, _ | 18, _ | 19, _ => rfl
  | n + 20, h => exact absurd h (by omega)

theorem codeWord_s (n : Int) (w : World) : Calls Try.prog 24 #[.int .i64 n] w fun e w' => e = .returned (.string (codeWord n)) ∧ Below w.heap.size w w' := by
  cases h : inR 0 n 19
  · go_enter Try.func24, Try.ntmps24
    go_wp2_with (go_at_call 38; refine (l00In_any _ _ _ _).mono ?_; rintro e w1 ⟨rfl, rfl⟩)
    go_ret
    exact ⟨ret_eq (by rw [codeWord, if_neg (by rw [h]; decide)]; rfl), by repeat (first | exact Below.refl _ _ | refine Below.alloc ?_ (by simp) _)⟩
  · have h' := inR_iff.1 h
    obtain ⟨k, rfl⟩ := Int.eq_ofNat_of_zero_le h'.1
    have hk : (k : Int) ≤ 19 := h'.2
    have hc := codeWords_at k (by omega)
    have he : Hid (codeWord k = codeAt k) := by show _ = _; rw [codeWord, if_pos h, Int.toNat_natCast]
    clear h'
    go_enter Try.func24, Try.ntmps24
    go_wp2_with (go_at_call 38; refine (l00In_any _ _ _ _).mono ?_; rintro e w1 ⟨rfl, rfl⟩)
    go_ret
    exact ⟨ret_eq (by rw [he.out]; rfl), by repeat (first | exact Below.refl _ _ | refine Below.alloc ?_ (by simp) _)⟩
theorem codeWord_i (n : Int) (w : World) : Calls Try.prog 25 #[.int .i64 n] w fun e w' => e = .returned (.string (codeWord n)) ∧ Below w.heap.size w w' := by
  cases h : inR 0 n 19
  · go_enter Try.func25, Try.ntmps25
    go_wp2_with (go_at_call 39; refine (within_any _ _ _ _).mono ?_; rintro e w1 ⟨rfl, rfl⟩)
    go_ret
    exact ⟨ret_eq (by rw [codeWord, if_neg (by rw [h]; decide)]; rfl), by repeat (first | exact Below.refl _ _ | refine Below.alloc ?_ (by simp) _)⟩
  · have h' := inR_iff.1 h
    obtain ⟨k, rfl⟩ := Int.eq_ofNat_of_zero_le h'.1
    have hk : (k : Int) ≤ 19 := h'.2
    have hc := codeWords_at k (by omega)
    have he : Hid (codeWord k = codeAt k) := by show _ = _; rw [codeWord, if_pos h, Int.toNat_natCast]
    clear h'
    go_enter Try.func25, Try.ntmps25
    go_wp2_with (go_at_call 39; refine (within_any _ _ _ _).mono ?_; rintro e w1 ⟨rfl, rfl⟩)
    go_ret
    exact ⟨ret_eq (by rw [he.out]; rfl), by repeat (first | exact Below.refl _ _ | refine Below.alloc ?_ (by simp) _)⟩
theorem law_FnExactCodeWord (n : Int) (_ : (Lit.int .i64 n).wf = true) (w : World) :
    Calls Try.prog 8 #[.int .i64 n] w fun e w' => e = .returned (.bool true) ∧ Below w.heap.size w w' := by
  go_enter Try.func8, Try.ntmps8
  go_wp2_with (first
    | (go_at_call 24; refine (codeWord_s _ _).mono ?_; rintro e w1 ⟨rfl, hb1⟩)
    | (go_at_call 25; refine (codeWord_i _ _).mono ?_; rintro e w2 ⟨rfl, hb2⟩))
  go_ret
  exact ⟨rfl, hb1.trans (hb2.mono hb1.size)⟩
end Go.Proofs.Ytocgaafompggfaa
