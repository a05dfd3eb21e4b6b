/- CharOk and RangeOk: what the program's and the reference's function compute, and the two laws. -/
import Derived.Test.YtocgaafompggfaaNums
import Derived.Lib.SmallJoins
namespace Go.Proofs.Ytocgaafompggfaa
open Go.RowKit Go.ChangeShapes Go.WideShapes

def charOk (n : Int) : Bool := inR 0 n 55295 || inR 57344 n 1114111

theorem charOk_s (n : Int) (w : World) :
    Calls Try.prog 15 #[.int .i64 n] w fun e w' => e = .returned (.bool (charOk n)) ∧ w = w' := by
  by_cases h : inR 0 n 55295 = true
  all_goals
    go_enter Try.func15, Try.ntmps15
    go_wp2_with (go_at_call 38; refine (l00In_any _ _ _ _).mono ?_; rintro e w1 ⟨rfl, rfl⟩)
    go_ret
    exact ⟨ret_eq (by simp_all [charOk]), rfl⟩
theorem charOk_i (n : Int) (w : World) :
    Calls Try.prog 16 #[.int .i64 n] w fun e w' => e = .returned (.bool (charOk n)) ∧ w = w' := by
  by_cases h : inR 0 n 55295 = true
  all_goals
    go_enter Try.func16, Try.ntmps16
    go_wp2_with (go_at_call 39; refine (within_any _ _ _ _).mono ?_; rintro e w1 ⟨rfl, rfl⟩)
    go_ret
    exact ⟨ret_eq (by simp_all [charOk]), rfl⟩
theorem law_FnExactCharOk (n : Int) (_ : (Lit.int .i64 n).wf = true) (w : World) :
    Calls Try.prog 4 #[.int .i64 n] w fun e w' => e = .returned (.bool true) ∧ Below w.heap.size w w' := by
  go_enter Try.func4, Try.ntmps4
  go_wp2_with (first
    | (go_at_call 15; refine (charOk_s _ _).mono ?_; rintro e w1 ⟨rfl, rfl⟩)
    | (go_at_call 16; refine (charOk_i _ _).mono ?_; rintro e w1 ⟨rfl, rfl⟩))
  go_ret
  exact ⟨rfl, Below.refl _ _⟩

def rangeOk (a b : Int) : Bool := inR 0 a 999999999 && inR (a + 1) b 1000000000

theorem rangeOk_s (a b : Int) (w : World) : -9223372036854775808 ≤ a → a ≤ 9223372036854775807 →
    Calls Try.prog 17 #[.agg #[.int .i64 a, .int .i64 b]] w fun e w' => e = .returned (.bool (rangeOk a b)) ∧ Below w.heap.size w w' := by
  intro ha1 ha2
  by_cases h : inR 0 a 999999999 = true
  · have h' := inR_iff.1 h
    go_enter Try.func17, Try.ntmps17
    go_wp2_with (go_at_call 38; refine (l00In_any _ _ _ _).mono ?_; rintro e w1 ⟨rfl, rfl⟩)
    go_ret
    exact ⟨ret_eq (by simp [rangeOk, h]), (Below.refl _ _).alloc (Nat.le_refl _) _⟩
  · go_enter Try.func17, Try.ntmps17
    go_wp2_with (go_at_call 38; refine (l00In_any _ _ _ _).mono ?_; rintro e w1 ⟨rfl, rfl⟩)
    go_ret
    exact ⟨ret_eq (by simp [rangeOk, h]), (Below.refl _ _).alloc (Nat.le_refl _) _⟩
theorem rangeOk_i (a b : Int) (w : World) : -9223372036854775808 ≤ a → a ≤ 9223372036854775807 →
    Calls Try.prog 19 #[.agg #[.int .i64 a, .int .i64 b]] w fun e w' => e = .returned (.bool (rangeOk a b)) ∧ Below w.heap.size w w' := by
  intro ha1 ha2
  by_cases h : inR 0 a 999999999 = true
  · have h' := inR_iff.1 h
    go_enter Try.func19, Try.ntmps19
    go_wp2_with (go_at_call 39; refine (within_any _ _ _ _).mono ?_; rintro e w1 ⟨rfl, rfl⟩)
    go_ret
    exact ⟨ret_eq (by simp [rangeOk, h]), (Below.refl _ _).alloc (Nat.le_refl _) _⟩
  · go_enter Try.func19, Try.ntmps19
    go_wp2_with (go_at_call 39; refine (within_any _ _ _ _).mono ?_; rintro e w1 ⟨rfl, rfl⟩)
    go_ret
    exact ⟨ret_eq (by simp [rangeOk, h]), (Below.refl _ _).alloc (Nat.le_refl _) _⟩
theorem toRange_w (a b : Int) (w : World) :
    Calls Try.prog 18 #[.agg #[.int .i64 a, .int .i64 b]] w fun e w' => e = .returned (.agg #[.int .i64 a, .int .i64 b]) ∧ Below w.heap.size w w' := by
  go_enter Try.func18, Try.ntmps18
  go_wp2
  exact bodyPost_ret (v := .agg #[.int .i64 a, .int .i64 b]) (by simp [results, Try.results18, go_sem]) rfl
    ⟨rfl, by repeat (first | exact Below.refl _ _ | refine Below.alloc ?_ (by simp <;> omega) _)⟩
theorem law_FnExactRangeOk {H : Type} {enc : TypeId × Value → H} {base : Nat} (v : Value) (d : DataW H) (p : List MemPlace) {w : World} (hv : Value.okWide Try.prog w .any base 25 v)
    (h : DataW.Trod enc Try.prog w 0 (fun _ => true) true 25 v d p) :
    Calls Try.prog 5 #[v] w fun e w' => e = .returned (.bool true) ∧ Below w.heap.size w w' := by
  obtain ⟨c0, c1, y0, y1, m, rfl, rfl, rfl, hy0, hy1⟩ := Go.Joins.open_agg2 Try.underlying25 (by kernel_rfl) (by kernel_rfl : Try.prog.cellsOf 25 = 2) hv h
  obtain ⟨a, e0, rfl, wa⟩ := DataW.trod_int Try.underlying2 hy0
  obtain ⟨b, e1, rfl, wb⟩ := DataW.trod_int Try.underlying2 hy1
  simp at e0 e1
  subst e0 e1
  have ha := (bounds_i64 wa)
  obtain ⟨ha1, ha2⟩ := ha
  go_enter Try.func5, Try.ntmps5
  go_wp2_with fail
  refine (toRange_w _ _ _).mono ?_; rintro e w1 ⟨rfl, hb1⟩
  obtain ⟨B1, z1, c1⟩ := box_call (Below.refl _ _) (Nat.le_refl _) hb1; clear hb1
  go_wp2_with fail
  refine (rangeOk_s _ _ _ ha1 ha2).mono ?_; rintro e w2 ⟨rfl, hb2⟩
  obtain ⟨B2, z2, c2, s2⟩ := box_next B1 z1 c1 B1.size hb2; clear B1 z1 c1 hb2
  go_wp2_with fail
  refine (toRange_w _ _ _).mono ?_; rintro e w3 ⟨rfl, hb3⟩
  obtain ⟨B3, z3, c3, s3⟩ := box_next B2 z2 c2 s2 hb3; clear B2 z2 c2 s2 hb3
  go_wp2_with fail
  refine (rangeOk_i _ _ _ ha1 ha2).mono ?_; rintro e w4 ⟨rfl, hb4⟩
  obtain ⟨B4, z4, c4, s4⟩ := box_next B3 z3 c3 s3 hb4; clear B3 z3 c3 s3 hb4
  go_wp2
  go_ret
  exact ⟨rfl, B4⟩
end Go.Proofs.Ytocgaafompggfaa
