/- Whether a value's number fits: by the program. -/
import Derived.Test.YtofihcahimdbhaaGreatDoorFitQ
import Derived.Test.YtofihcahimdbhaaGreatDoorRepS
import Derived.Test.YtofihcahimdbhaaGreatDoorTyKids
import Derived.Test.YtofihcahimdbhaaGreatDoorTyLab
import Derived.Test.YtofihcahimdbhaaGreatDoorNums
namespace Go.Proofs.YtofihcahimdbhaaGreatDoor
open Go.RowKit

theorem charOk_i (n : Int) (w : World) : Calls Tryz.prog 166 #[.int .i64 n] w fun e w' => e = .returned (.bool (charOk n)) ∧ w = w' := by
  by_cases h : inR 0 n 55295 = true
  all_goals
    go_enter Tryz.func166, Tryz.ntmps166
    go_wp2_with (go_at_call 78; refine (within_any _ _ _ _).mono ?_; rintro e w1 ⟨rfl, rfl⟩)
    go_ret
    exact ⟨ret_eq (by simp_all [charOk]), rfl⟩
/-- The kinds of a valid part. -/
theorem kind_in {k : Int} {n : ByteArray} {l : List ByteArray} {kids : List Ty} (h : shape (.mk k n l kids) = true) : 1 ≤ k ∧ k ≤ 23 := by
  by_cases hk : k = 12 ∨ k = 13 ∨ k = 22 ∨ k = 23 ∨ k = 14 ∨ k = 15 ∨ k = 16 ∨ k = 17
  · omega
  · have h1 := (shape_fit h).1
    rw [kf7 hk, Bool.and_eq_true, inR_iff] at h1
    exact h1.1
theorem kind_ways {k : Int} (h : 1 ≤ k ∧ k ≤ 23) : k = 1 ∨ k = 2 ∨ k = 3 ∨ k = 4 ∨ k = 5 ∨ k = 6 ∨ k = 7 ∨ k = 8 ∨ k = 9 ∨ k = 10 ∨ k = 11 ∨ k = 12 ∨ k = 13 ∨ k = 14 ∨ k = 15 ∨ k = 16 ∨ k = 17 ∨ k = 18 ∨ k = 19 ∨ k = 20 ∨ k = 21 ∨ k = 22 ∨ k = 23 := by omega
theorem shl_1 (nl : Nat) (h : nl ≤ 16) : wrap64 (wrap64 ((2 : Int) ^ nl) - 1) = ((2 ^ nl : Nat) : Int) - 1 := by
  obtain rfl | rfl | rfl | rfl | rfl | rfl | rfl | rfl | rfl | rfl | rfl | rfl | rfl | rfl | rfl | rfl | rfl : nl = 0 ∨ nl = 1 ∨ nl = 2 ∨ nl = 3 ∨ nl = 4 ∨ nl = 5 ∨ nl = 6 ∨ nl = 7 ∨ nl = 8 ∨ nl = 9 ∨ nl = 10 ∨ nl = 11 ∨ nl = 12 ∨ nl = 13 ∨ nl = 14 ∨ nl = 15 ∨ nl = 16 := by omega
  all_goals decide +kernel
set_option maxHeartbeats 4000000 in
set_option maxRecDepth 20000 in
theorem numOk_i (k m : Int) (s : ByteArray) (vV : Value) (n : ByteArray) (l : List ByteArray) (vK : Value) (A : Option Addr) (c : Nat) (k' : Int) (w : World) (hk : 1 ≤ k ∧ k ≤ 23) (hl : l.length ≤ 16 ∨ k ≠ 19) (hl2 : l.length ≤ 9223372036854775807) (fV : ∃ a b c, vV = .slice a b c) (fK : ∃ a b c, vK = .slice a b c) :
    Calls Tryz.prog 117 #[.agg #[.int .i64 k', .int .i64 m, .string s, vV], .agg #[.int .i64 k, .string n, .slice A l.length c, vK]] w fun e w' => e = .returned (.bool (numFits k l.length m)) ∧ Below w.heap.size w w' := by
  obtain ⟨a1, b1, c1, rfl⟩ := fV
  obtain ⟨a2, b2, c2, rfl⟩ := fK
  rcases kind_ways hk with rfl | rfl | rfl | rfl | rfl | rfl | rfl | rfl | rfl | rfl | rfl | rfl | rfl | rfl | rfl | rfl | rfl | rfl | rfl | rfl | rfl | rfl | rfl
  case inr.inr.inr.inr.inr.inr.inr.inr.inr.inr.inr.inr.inr.inr.inr.inr.inr.inr.inl =>
    have h16 : l.length ≤ 16 := hl.resolve_right (fun h => h rfl)
    have HS := Lib.hid (shl_1 l.length h16)
    go_enter Tryz.func117, Tryz.ntmps117
    go_wp2_with fail
    rw [HS.out]
    refine (within_any _ _ _ _).mono ?_
    rintro e w1 ⟨rfl, rfl⟩
    go_wp2
    go_ret
    exact ⟨rfl, (by repeat (first | exact Below.refl _ _ | refine Below.alloc ?_ (by first | omega | (simp <;> omega)) _))⟩
  all_goals
    go_enter Tryz.func117, Tryz.ntmps117
    go_wp2_with (first
      | (go_at_call 165; refine (numRange_i0 _ _).mono ?_; rintro e w1 ⟨rfl, rfl⟩)
      | (go_at_call 166; refine (charOk_i _ _).mono ?_; rintro e w1 ⟨rfl, rfl⟩)
      | (go_at_call 164; refine (sizeS_any _ _ _ _).mono ?_; rintro e w1 ⟨rfl, rfl⟩)
      | (go_at_call 78; refine (within_any _ _ _ _).mono ?_; rintro e w1 ⟨rfl, rfl⟩))
    go_ret
    exact ⟨rfl, (by repeat (first | exact Below.refl _ _ | refine Below.alloc ?_ (by first | omega | (simp <;> omega)) _))⟩
theorem isUnit_v (k : Int) (n : ByteArray) (v v' : Value) (A A' : Option Addr) (m c m' c' : Nat) (hv : v = .slice A m c) (hv' : v' = .slice A' m' c') (w : World) : Calls Tryz.prog 169 #[.agg #[.int .i64 k, .string n, v, v']] w fun e w' => e = .returned (.bool (k == 1)) ∧ Below w.heap.size w w' := by
  subst hv hv'
  cases h : (k == 1)
  all_goals
    go_enter Tryz.func169, Tryz.ntmps169
    go_wp2
    go_ret
    exact ⟨rfl, (Below.refl _ _).alloc (Nat.le_refl _) _⟩
/-- The type of a case; 13, 0: unit. -/
def RetCase (S : Nat → Prop) (y : Ty) (w : World) (e : Ending) (w' : World) : Prop := ∃ cs, e = .returned (.tuple #[.agg cs.toArray, .bool true]) ∧ D.Ats w' S y.ds cs ∧ Below w.heap.size w w'
theorem ret_case {S : Nat → Prop} {y : Ty} {w w' : World} {cs : List Value} (h : D.Ats w S y.ds cs) (hb : Below w.heap.size w w') : RetCase S y w (.returned (.tuple #[.agg cs.toArray, .bool true])) w' := ⟨cs, rfl, h.below hb, hb⟩
set_option maxRecDepth 20000 in
theorem caseType_none {S : Nat → Prop} (n : ByteArray) (A A' : Option Addr) (m c m' c' : Nat) (w : World) : Calls Tryz.prog 141 #[.agg #[.int .i64 13, .string n, .slice A m c, .slice A' m' c'], .int .i64 0] w (RetCase S (.mk 1 ⟨#[]⟩ [] []) w) := by
  go_enter Tryz.func141, Tryz.ntmps141
  go_wp2
  refine bodyPost_ret (v := .tuple #[.agg #[.int .i64 1, .string ⟨#[]⟩, .slice none 0 0, .slice none 0 0], .bool true]) (by simp [results, Tryz.results141, go_sem]) rfl ⟨[.int .i64 1, .string ⟨#[]⟩, .slice none 0 0, .slice none 0 0], rfl, ?_, (by repeat (first | exact Below.refl _ _ | with_reducible refine Below.setCell ?_ (by simp <;> omega) _ | refine Below.alloc ?_ (by first | omega | (simp <;> omega)) _))⟩
  exact Ty.mk_ (by omega) (by decide) (show D.At _ _ (strs []) _ from at_nil (Nat.zero_le _)) (at_nil (Nat.zero_le _))
/-- The number of a case within the row of kids. -/
def caseNo (k m : Int) : Int := if k = 13 then m - 1 else m
set_option maxHeartbeats 2000000 in
set_option maxRecDepth 20000 in
theorem caseType_some {S : Nat → Prop} (k m : Int) (q : Nat) (n : ByteArray) (l : List ByteArray) (kids : List Ty) (A A' : Option Addr) (c c' : Nat) (w : World) (hq : caseNo k m = q) (hk : k = 13 → m = 1) (y : Ty) (hy : kids[q]? = some y) (hv : D.At w S (rows Ty.ds 4 kids) (.slice A' kids.length c')) :
    Calls Tryz.prog 141 #[.agg #[.int .i64 k, .string n, .slice A l.length c, .slice A' kids.length c'], .int .i64 m] w (RetCase S y w) := by
  have hpos : q < kids.length := (List.getElem?_eq_some_iff.1 hy).1
  obtain ⟨-, hnk, hck⟩ := rows_bound hv
  unfold maxLen at hck
  have hk0 : (0 : Int) ≤ (q : Int) := by omega
  have hk1 : (q : Int) < (kids.length : Int) := by omega
  have hin : inR 0 q ((kids.length : Int) - 1) = true := inR_iff.2 ⟨by omega, by omega⟩
  obtain ⟨b, off, u0, u1, u2, u3, e, hSb, hbl, hat, d0, d1, d2, d3⟩ := rows_at4 Ty.len hv hy
  subst e
  obtain ⟨f0, f1, f2, f3, f4, f5, f6, f7, exx⟩ := Ty.form hat
  simp only [List.cons.injEq, and_true] at exx
  obtain ⟨rfl, rfl, rfl, rfl⟩ := exx
  have HA := Lib.hid hat
  have HIN := Lib.hid hin
  clear hy hv hat hin hpos
  by_cases g13 : k = 13
  · subst g13
    obtain rfl := hk rfl
    obtain rfl : q = 0 := by have : caseNo 13 1 = 0 := rfl; omega
    simp only [Nat.zero_mul, Nat.add_zero] at d0 d1 d2 d3
    clear hk hq hk0
    go_enter Tryz.func141, Tryz.ntmps141
    go_wp2_with fail
    refine (sizeT_any _ _ _ _).mono ?_
    rintro e w1 ⟨rfl, rfl⟩
    go_wp2_with fail
    refine (within_any _ _ _ _).mono ?_
    rintro e w2 ⟨rfl, rfl⟩
    rw [show inR 0 0 ((kids.length : Int) - 1) = true from HIN.out]
    go_wp2
    exact bodyPost_ret (v := .tuple #[.agg #[.int .i64 f0, .string f1, .slice f2 f3 f4, .slice f5 f6 f7], .bool true]) (by simp [results, Tryz.results141, go_sem]) rfl (ret_case (cs := [.int .i64 f0, .string f1, .slice f2 f3 f4, .slice f5 f6 f7]) HA.out (by repeat (first | exact Below.refl _ _ | with_reducible refine Below.setCell ?_ (by simp <;> omega) _ | refine Below.alloc ?_ (by first | omega | (simp <;> omega)) _)))
  · have hm : m = q := by rw [← hq, caseNo, if_neg g13]
    subst hm
    have g13' : (k == 13) = false := beq_eq_false_iff_ne.2 g13
    clear hk hq g13
    go_enter Tryz.func141, Tryz.ntmps141
    go_wp2_with fail
    refine (sizeT_any _ _ _ _).mono ?_
    rintro e w1 ⟨rfl, rfl⟩
    go_wp2_with fail
    refine (within_any _ _ _ _).mono ?_
    rintro e w2 ⟨rfl, rfl⟩
    rw [HIN.out]
    go_wp2
    exact bodyPost_ret (v := .tuple #[.agg #[.int .i64 f0, .string f1, .slice f2 f3 f4, .slice f5 f6 f7], .bool true]) (by simp [results, Tryz.results141, go_sem]) rfl (ret_case (cs := [.int .i64 f0, .string f1, .slice f2 f3 f4, .slice f5 f6 f7]) HA.out (by repeat (first | exact Below.refl _ _ | with_reducible refine Below.setCell ?_ (by simp <;> omega) _ | refine Below.alloc ?_ (by first | omega | (simp <;> omega)) _)))
end Go.Proofs.YtofihcahimdbhaaGreatDoor
