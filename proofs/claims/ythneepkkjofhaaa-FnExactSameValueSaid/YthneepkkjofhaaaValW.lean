/- Values: the law's own functions: how many letters and places. -/
import Derived.Test.YthneepkkjofhaaaCore
import Derived.Test.YthneepkkjofhaaaVal
namespace Go.Proofs.Ythneepkkjofhaaa
open Go.RowKit

/-- So much is left, or -1. -/
def left (a : Int) (n : Nat) : Int := if (n : Int) ≤ a then a - n else -1

theorem left_add (a : Int) (m n : Nat) : left a (m + n) = if (m : Int) ≤ a then left (a - m) n else -1 := by
  unfold left
  by_cases h : (m : Int) ≤ a
  · rw [if_pos h]
    by_cases h2 : (n : Int) ≤ a - m
    · rw [if_pos h2, if_pos (by omega)]; omega
    · rw [if_neg h2, if_neg (by omega)]
  · rw [if_neg h, if_neg (by omega)]
theorem left_neg {a : Int} {n : Nat} (h : left a n < 0) : left a n = -1 := by
  unfold left at h ⊢
  by_cases h2 : (n : Int) ≤ a
  · rw [if_pos h2] at h; omega
  · rw [if_neg h2]

def SzVal (x : Val) : Prop := ∀ (cs : List Value) (a : Int) (w : World), D.Ats w anyB x.ds cs → 0 ≤ a → a ≤ 1048576 →
  Calls Try.prog 19 #[.agg cs.toArray, .int .i64 a] w fun e w' => e = .returned (.int .i64 (left a x.total)) ∧ Below w.heap.size w w'

set_option maxHeartbeats 400000 in
theorem szValueS_w (l : List Val) (hl : ∀ x ∈ l, SzVal x) (v : Value) (a : Int) (w : World) (hv : D.At w anyB (Val.sl l) v) (h0 : 0 ≤ a) (h1 : a ≤ 1048576) :
    Calls Try.prog 75 #[v, .int .i64 a] w fun e w' => e = .returned (.int .i64 (left a (l.length + Val.totals l))) ∧ Below w.heap.size w w' := by
  obtain ⟨A, cap, rfl, hn, hc⟩ := Val.sl_form hv
  unfold maxLen at hc
  have HV := Lib.hid hv
  have HL := Lib.hid hl
  clear hv hl
  by_cases hlen : (l.length : Int) ≤ a
  · go_enter Try.func75, Try.ntmps75
    go_wp2
    go_loopw [1, 5] (fun a' i wr => ∃ (k : Nat) (q : Int), k ≤ l.length ∧ i = .int .i64 k ∧ a' = .int .i64 q ∧ q = a - l.length - (Val.totals (l.take k) : Int) ∧ 0 ≤ q ∧ Below w.heap.size w wr) (fun _ i _ => l.length - (intOf i).toNat)
    case atStart => exact ⟨0, _, Nat.zero_le _, rfl, rfl, by simp [Val.totals], by omega, Below.refl _ _⟩
    case round =>
      obtain ⟨k, q, hk, rfl, rfl, hq, hq0, hb⟩ := hrel
      have HQ := Lib.hid hq
      have hq1 : q ≤ 1048576 := by omega
      clear hq
      by_cases hlt : k < l.length
      · obtain ⟨x, hx⟩ : ∃ x, l[k]? = some x := ⟨l[k], List.getElem?_eq_getElem hlt⟩
        obtain ⟨b, off, u0, u1, u2, u3, rfl, -, hbl, hat, c0, c1, c2, c3⟩ := Val.sl_at HV.out hx
        replace c0 := (hb.cell (p := ⟨b, off + k * 4, none⟩) hbl).trans c0
        replace c1 := (hb.cell (p := ⟨b, off + k * 4 + 1, none⟩) hbl).trans c1
        replace c2 := (hb.cell (p := ⟨b, off + k * 4 + 2, none⟩) hbl).trans c2
        replace c3 := (hb.cell (p := ⟨b, off + k * 4 + 3, none⟩) hbl).trans c3
        have hxm : x ∈ l := List.mem_of_getElem? hx
        have ht : Val.totals (l.take (k + 1)) = Val.totals (l.take k) + x.total := by rw [List.take_add_one, hx]; exact Val.totals_snoc _ _
        have htl := Val.totals_take l (k + 1)
        have HT := Lib.hid (And.intro ht htl)
        clear ht htl hx
        go_wp2_with fail
        refine (HL.out x hxm _ q _ (hat.below hb) hq0 hq1).mono ?_
        rintro e w1 ⟨rfl, hb1⟩
        have hb2 := hb.trans (hb1.mono hb.size)
        clear hb hb1 c0 c1 c2 c3
        by_cases hle : (x.total : Int) ≤ q
        · have e : left q x.total = q - x.total := if_pos hle
          have hE := Lib.hid e
          have hg : 0 ≤ q - (x.total : Int) := by omega
          rw [e]
          clear e
          go_wp2
          go_roundw
          case rel =>
            refine ⟨k + 1, q - x.total, by omega, by go_num, rfl, ?_, hg, hb2⟩
            rw [HT.out.1, HQ.out]; omega
          case measure => simp [intOf]; omega
        · have e : left q x.total = -1 := if_neg hle
          rw [e]
          clear e
          go_wp2
          go_ret
          refine ⟨ret_eq ?_, hb2⟩
          have : left a (l.length + Val.totals l) = -1 := by
            apply if_neg
            have := HT.out
            have := HQ.out
            omega
          rw [this]
          rfl
      · go_wp2
        go_ret
        refine ⟨ret_eq ?_, hb⟩
        have hk' : l.take k = l := List.take_of_length_le (by omega)
        have e := HQ.out
        rw [hk'] at e
        have : left a (l.length + Val.totals l) = q := by rw [left, if_pos (by omega)]; omega
        rw [this]
        rfl
  · have e : left a (l.length + Val.totals l) = -1 := if_neg (by omega)
    rw [e]
    clear e
    go_enter Try.func75, Try.ntmps75
    go_wp2
    go_ret
    exact ⟨rfl, Below.refl _ _⟩

set_option maxHeartbeats 400000 in
theorem szValue_w (x : Val) : SzVal x := by
  refine Val.ind (fun k n t kids ih => ?_) x
  intro cs a w hcs h0 h1
  obtain ⟨v, rfl, -, -, ht, hv⟩ := Val.open_ hcs
  unfold maxLen at ht
  have IH := Lib.hid ih
  have HV := Lib.hid hv
  clear ih hv hcs
  have hcalc : left a (Val.mk k n t kids).total = if (t.size : Int) ≤ a then left (a - t.size) (kids.length + Val.totals kids) else -1 := by
    simp only [Val.total, left_add]
  obtain ⟨A, cap, rfl, -, -⟩ := Val.sl_form HV.out
  by_cases hlt : (t.size : Int) ≤ a
  · rw [if_pos hlt] at hcalc
    have HC := Lib.hid hcalc
    clear hcalc
    go_enter Try.func19, Try.ntmps19
    go_wp2_with fail
    refine (szValueS_w kids IH.out _ _ _ (HV.out.below ((Below.refl _ _).alloc (Nat.le_refl _) _)) (by omega) (by omega)).mono ?_
    rintro e w1 ⟨rfl, hb1⟩
    obtain ⟨B1, -, -⟩ := box_call (Below.refl _ _) (Nat.le_refl _) hb1
    clear hb1
    by_cases hneg : left (a - t.size) (kids.length + Val.totals kids) < 0
    · have hm : left (a - t.size) (kids.length + Val.totals kids) = -1 := left_neg hneg
      rw [hm]
      have HM := Lib.hid (HC.out.trans hm)
      clear hm hneg
      go_wp2
      go_ret
      exact ⟨ret_eq (by rw [HM.out]; rfl), B1⟩
    · go_wp2
      go_ret
      exact ⟨ret_eq (by rw [HC.out]; rfl), B1⟩
  · rw [if_neg hlt] at hcalc
    rw [hcalc]
    clear hcalc
    go_enter Try.func19, Try.ntmps19
    go_wp2
    go_ret
    exact ⟨rfl, (Below.refl _ _).alloc (Nat.le_refl _) _⟩
end Go.Proofs.Ythneepkkjofhaaa
