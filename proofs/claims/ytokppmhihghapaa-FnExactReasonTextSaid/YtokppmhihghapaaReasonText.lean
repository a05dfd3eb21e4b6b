/- ReasonText: what the program's and the reference's function compute, and the law. -/
import Derived.Test.YtokppmhihghapaaGReason
import Derived.Test.YtokppmhihghapaaOReason
import Derived.Test.YtokppmhihghapaaNums
namespace Go.Proofs.Ytokppmhihghapaa
open Go.RowKit Go.ChangeShapes Go.WideShapes

def reasons : Array ByteArray := #[⟨#[97, 110, 111, 116, 104, 101, 114, 32, 107, 105, 110, 100]⟩, ⟨#[110, 117, 109, 98, 101, 114, 115, 32, 100, 111, 32, 110, 111, 116, 32, 102, 105, 116]⟩, ⟨#[111, 116, 104, 101, 114, 32, 112, 97, 114, 116, 115]⟩, ⟨#[97, 32, 108, 97, 98, 101, 108, 32, 108, 97, 99, 107, 115]⟩, ⟨#[97, 110, 32, 117, 110, 107, 110, 111, 119, 110, 32, 99, 97, 115, 101]⟩, ⟨#[97, 110, 111, 116, 104, 101, 114, 32, 114, 101, 115, 111, 117, 114, 99, 101]⟩, ⟨#[111, 116, 104, 101, 114, 32, 112, 97, 114, 97, 109, 115]⟩, ⟨#[97, 115, 121, 110, 99]⟩, ⟨#[97, 32, 102, 117, 110, 99, 116, 105, 111, 110, 32, 108, 97, 99, 107, 115]⟩, ⟨#[97, 110, 111, 116, 104, 101, 114, 32, 118, 101, 114, 115, 105, 111, 110]⟩, ⟨#[97, 110, 111, 116, 104, 101, 114, 32, 105, 110, 116, 101, 114, 102, 97, 99, 101]⟩]
def reasonAt (k : Nat) : ByteArray := reasons.getD k ⟨#[]⟩
theorem reasons_at (k : Nat) (h : k < 11) : ([.string ⟨#[97, 110, 111, 116, 104, 101, 114, 32, 107, 105, 110, 100]⟩, .string ⟨#[110, 117, 109, 98, 101, 114, 115, 32, 100, 111, 32, 110, 111, 116, 32, 102, 105, 116]⟩, .string ⟨#[111, 116, 104, 101, 114, 32, 112, 97, 114, 116, 115]⟩, .string ⟨#[97, 32, 108, 97, 98, 101, 108, 32, 108, 97, 99, 107, 115]⟩, .string ⟨#[97, 110, 32, 117, 110, 107, 110, 111, 119, 110, 32, 99, 97, 115, 101]⟩, .string ⟨#[97, 110, 111, 116, 104, 101, 114, 32, 114, 101, 115, 111, 117, 114, 99, 101]⟩, .string ⟨#[111, 116, 104, 101, 114, 32, 112, 97, 114, 97, 109, 115]⟩, .string ⟨#[97, 115, 121, 110, 99]⟩, .string ⟨#[97, 32, 102, 117, 110, 99, 116, 105, 111, 110, 32, 108, 97, 99, 107, 115]⟩, .string ⟨#[97, 110, 111, 116, 104, 101, 114, 32, 118, 101, 114, 115, 105, 111, 110]⟩, .string ⟨#[97, 110, 111, 116, 104, 101, 114, 32, 105, 110, 116, 101, 114, 102, 97, 99, 101]⟩] : List Value)[k]? = some (.string (reasonAt k)) := by
  match k, h with
  | 0, _ | 1, _ | 2, _ | 3, _ | 4, _ | 5, _ | 6, _ | 7, _ | 8, _ | 9, _ | 10, _ => rfl
  | n + 11, h => exact absurd h (by omega)
theorem reasonAt_size (k : Nat) (h : k < 11) : (reasonAt k).size ≤ 100 := by
  match k, h with
  | 0, _ | 1, _ | 2, _ | 3, _ | 4, _ | 5, _ | 6, _ | 7, _ | 8, _ | 9, _ | 10, _ => decide
  | n + 11, h => exact absurd h (by omega)
/-- The text of a reason. -/
def reasonText (x : Rs) : ByteArray := if inR 1 x.kind 11 = true then (if x.at_.toList.isEmpty = true then reasonAt (x.kind.toNat - 1) else x.at_ ++ ⟨#[58, 32]⟩ ++ reasonAt (x.kind.toNat - 1)) else ⟨#[]⟩

set_option maxHeartbeats 1000000 in
theorem reasonText_s (x : Rs) (cs : List Value) (w : World) (hcs : D.Ats w anyB x.ds cs) (hs : x.at_.size ≤ 1048576) :
    Calls Try.prog 17 #[.agg cs.toArray] w fun e w' => e = .returned (.string (reasonText x)) ∧ Below w.heap.size w w' := by
  obtain ⟨rfl, -, -⟩ := Rs.open_ hcs
  clear hcs
  obtain ⟨n, a⟩ := x
  simp only at hs ⊢
  cases h : inR 1 n 11
  · have he : reasonText ⟨n, a⟩ = ⟨#[]⟩ := by simp [reasonText, h]
    have HE := Lib.hid he
    clear he
    go_enter Try.func17, Try.ntmps17
    go_wp2_with (go_at_call 60; refine (l00In_any _ _ _ _).mono ?_; rintro e w1 ⟨rfl, rfl⟩)
    go_ret
    exact ⟨ret_eq (by rw [HE.out]; rfl), by repeat (first | exact Below.refl _ _ | refine Below.alloc ?_ (by first | omega | (simp <;> omega)) _)⟩
  · have h' := inR_iff.1 h
    obtain ⟨k, rfl⟩ : ∃ k : Nat, n = (k : Int) + 1 := ⟨(n - 1).toNat, by omega⟩
    have hk : (k : Int) ≤ 10 := by omega
    have hc := reasons_at k (by omega)
    have hz := reasonAt_size k (by omega)
    cases ha : a.toList.isEmpty
    · have he : reasonText ⟨(k : Int) + 1, a⟩ = a ++ ⟨#[58, 32]⟩ ++ reasonAt k := by
        have e : ((k : Int) + 1).toNat - 1 = k := by omega
        show (if _ then _ else _) = _
        rw [if_pos h, if_neg (by rw [ha]; decide)]
        simp only [e]
      have HE := Lib.hid he
      have ha2 : ¬ a.toList = [] := by simpa using ha
      clear he h'
      go_enter Try.func17, Try.ntmps17
      go_wp2_with (go_at_call 60; refine (l00In_any _ _ _ _).mono ?_; rintro e w1 ⟨rfl, rfl⟩)
      go_ret
      exact ⟨ret_eq (by rw [HE.out]; rfl), by repeat (first | exact Below.refl _ _ | refine Below.alloc ?_ (by first | omega | (simp <;> omega)) _)⟩
    · have he : reasonText ⟨(k : Int) + 1, a⟩ = reasonAt k := by
        have e : ((k : Int) + 1).toNat - 1 = k := by omega
        show (if _ then _ else _) = _
        rw [if_pos h, if_pos ha]
        simp only [e]
      have HE := Lib.hid he
      have ha2 : a.toList = [] := by simpa using ha
      clear he h'
      go_enter Try.func17, Try.ntmps17
      go_wp2_with (go_at_call 60; refine (l00In_any _ _ _ _).mono ?_; rintro e w1 ⟨rfl, rfl⟩)
      go_ret
      exact ⟨ret_eq (by rw [HE.out]; rfl), by repeat (first | exact Below.refl _ _ | refine Below.alloc ?_ (by first | omega | (simp <;> omega)) _)⟩

set_option maxHeartbeats 1000000 in
theorem reasonText_i (x : Rs) (cs : List Value) (w : World) (hcs : D.Ats w anyB x.ds cs) (hs : x.at_.size ≤ 1048576) :
    Calls Try.prog 19 #[.agg cs.toArray] w fun e w' => e = .returned (.string (reasonText x)) ∧ Below w.heap.size w w' := by
  obtain ⟨rfl, -, -⟩ := Rs.open_ hcs
  clear hcs
  obtain ⟨n, a⟩ := x
  simp only at hs ⊢
  cases h : inR 1 n 11
  · have he : reasonText ⟨n, a⟩ = ⟨#[]⟩ := by simp [reasonText, h]
    have HE := Lib.hid he
    clear he
    go_enter Try.func19, Try.ntmps19
    go_wp2_with (go_at_call 61; refine (within_any _ _ _ _).mono ?_; rintro e w1 ⟨rfl, rfl⟩)
    go_ret
    exact ⟨ret_eq (by rw [HE.out]; rfl), by repeat (first | exact Below.refl _ _ | refine Below.alloc ?_ (by first | omega | (simp <;> omega)) _)⟩
  · have h' := inR_iff.1 h
    obtain ⟨k, rfl⟩ : ∃ k : Nat, n = (k : Int) + 1 := ⟨(n - 1).toNat, by omega⟩
    have hk : (k : Int) ≤ 10 := by omega
    have hc := reasons_at k (by omega)
    have hz := reasonAt_size k (by omega)
    cases ha : a.toList.isEmpty
    · have he : reasonText ⟨(k : Int) + 1, a⟩ = a ++ ⟨#[58, 32]⟩ ++ reasonAt k := by
        have e : ((k : Int) + 1).toNat - 1 = k := by omega
        show (if _ then _ else _) = _
        rw [if_pos h, if_neg (by rw [ha]; decide)]
        simp only [e]
      have HE := Lib.hid he
      have ha2 : ¬ a.toList = [] := by simpa using ha
      clear he h'
      go_enter Try.func19, Try.ntmps19
      go_wp2_with (go_at_call 61; refine (within_any _ _ _ _).mono ?_; rintro e w1 ⟨rfl, rfl⟩)
      go_ret
      exact ⟨ret_eq (by rw [HE.out]; rfl), by repeat (first | exact Below.refl _ _ | refine Below.alloc ?_ (by first | omega | (simp <;> omega)) _)⟩
    · have he : reasonText ⟨(k : Int) + 1, a⟩ = reasonAt k := by
        have e : ((k : Int) + 1).toNat - 1 = k := by omega
        show (if _ then _ else _) = _
        rw [if_pos h, if_pos ha]
        simp only [e]
      have HE := Lib.hid he
      have ha2 : a.toList = [] := by simpa using ha
      clear he h'
      go_enter Try.func19, Try.ntmps19
      go_wp2_with (go_at_call 61; refine (within_any _ _ _ _).mono ?_; rintro e w1 ⟨rfl, rfl⟩)
      go_ret
      exact ⟨ret_eq (by rw [HE.out]; rfl), by repeat (first | exact Below.refl _ _ | refine Below.alloc ?_ (by first | omega | (simp <;> omega)) _)⟩

set_option maxHeartbeats 1000000 in
set_option maxRecDepth 20000 in
theorem law_FnExactReasonText {H : Type} {enc : TypeId × Value → H} {b0 : Nat} {w : World} (v : Value) (d : DataW H) (p : List MemPlace) (hv : Value.okWide Try.prog w .any b0 24 v)
    (h : DataW.Trod enc Try.prog w 0 (fun _ => true) true 24 v d p) :
    Calls Try.prog 4 #[v] w fun e w' => e = .returned (.bool true) ∧ Below w.heap.size w w' := by
  obtain ⟨cs, X, rfl, hx⟩ := Reason_arg hv h
  clear hv h
  obtain ⟨k0, k1, rfl⟩ := Rs.form hx
  have HX := Lib.hid hx
  have hT : D.totals X.ds = X.at_.size := by simp [Rs.ds, D.totals, D.total]
  have HT := Lib.hid hT
  clear hx hT
  go_enter Try.func4, Try.ntmps4
  go_wp2_with fail
  refine (szReason_w X _ _ _ (HX.out.below (by repeat (first | exact Below.refl _ _ | refine Below.alloc ?_ (by first | omega | (simp <;> omega)) _))) (by omega) (by omega)).mono ?_
  rintro e w1 ⟨rfl, hb1⟩
  obtain ⟨B1, bA⟩ := box1 (cA := [_, _]) hb1
  clear hb1
  by_cases hle : (D.totals X.ds : Int) ≤ 1048576
  · rw [left_yes hle]
    have hg : ¬ (1048576 - (D.totals X.ds : Int) < 0) := by omega
    have c := bA.cell
    go_wp2_with fail
    refine (toReason_w X _ _ (HX.out.below B1) (by omega)).mono ?_
    rintro e w2 ⟨cs2, rfl, hcs2, hb2⟩
    have B2 := B1.trans (hb2.mono B1.size)
    have Q2 := Lib.hid (hcs2.weaken (S' := anyB) (fun _ _ => trivial))
    replace bA := bA.call hb2
    clear c B1 hb2 hcs2
    go_wp2_with fail
    refine (reasonText_s X _ _ Q2.out (by have := HT.out; omega)).mono ?_
    rintro e w3 ⟨rfl, hb3⟩
    have B3 := B2.trans (hb3.mono B2.size)
    replace bA := bA.call hb3
    clear B2 hb3 Q2
    have c := bA.cell
    go_wp2_with fail
    refine (toReason_w X _ _ (HX.out.below B3) (by omega)).mono ?_
    rintro e w4 ⟨cs4, rfl, hcs4, hb4⟩
    have B4 := B3.trans (hb4.mono B3.size)
    have Q4 := Lib.hid (hcs4.weaken (S' := anyB) (fun _ _ => trivial))
    clear c B3 hb4 hcs4
    go_wp2_with fail
    refine (reasonText_i X _ _ Q4.out (by have := HT.out; omega)).mono ?_
    rintro e w5 ⟨rfl, hb5⟩
    have B5 := B4.trans (hb5.mono B4.size)
    clear B4 hb5 Q4
    go_wp2
    go_ret
    exact ⟨rfl, B5⟩
  · rw [left_no hle]
    go_wp2
    go_ret
    exact ⟨rfl, B1⟩
end Go.Proofs.Ytokppmhihghapaa
