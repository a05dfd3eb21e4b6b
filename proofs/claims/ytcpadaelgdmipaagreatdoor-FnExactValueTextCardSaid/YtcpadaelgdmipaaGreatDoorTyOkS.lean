/- A type is valid: by the reference. -/
import Derived.Test.YtcpadaelgdmipaaGreatDoorTyShapeS
import Derived.Test.YtcpadaelgdmipaaGreatDoorTyShapeZ
import Derived.Test.YtcpadaelgdmipaaGreatDoorTySize
namespace Go.Proofs.YtcpadaelgdmipaaGreatDoor
open Go.RowKit

theorem l03Shape_s (x : Ty) (cs : List Value) (w : World) (hcs : D.Ats w anyB x.ds cs) :
    Calls Tryz.prog 118 #[.agg cs.toArray] w fun e w' => e = .returned (.bool (shape x)) ∧ Below w.heap.size w w' := by
  obtain ⟨k, n, l, kids⟩ := x
  by_cases h : 0 < l.length
  · exact l03Shape_s1 k n l kids cs w h hcs
  · exact l03Shape_s0 k n l kids cs w (List.eq_nil_of_length_eq_zero (by omega)) hcs
theorem all_anyS (q : Ty → Bool) (l : List Ty) : l.all q = !(l.any fun y => !q y) := by
  rw [Bool.eq_iff_iff]; simp
set_option maxHeartbeats 2000000 in
set_option maxRecDepth 20000 in
theorem l03Parts_s (x : Ty) : ∀ (cs : List Value) (w : World), D.Ats w anyB x.ds cs →
    Calls Tryz.prog 99 #[.agg cs.toArray] w fun e w' => e = .returned (.bool (Ty.all shape x)) ∧ Below w.heap.size w w' := by
  induction x using Ty.ind with
  | h k n l kids ih =>
    intro cs w hcs
    have HX := Lib.hid hcs
    obtain ⟨A, cap, B, cap2, rfl, -, -, hl, hk⟩ := Ty.open_ hcs
    obtain ⟨-, hn, hc⟩ := rows_bound hk
    unfold maxLen at hc
    have HV := Lib.hid hk
    have HI := Lib.hid ih
    have HE := Lib.hid (show Ty.all shape (.mk k n l kids) = (shape (.mk k n l kids) && !(kids.any fun y => !Ty.all shape y)) by rw [Ty.all_mk, all_anyS])
    clear hcs hl hk ih
    go_enter Tryz.func99, Tryz.ntmps99
    go_wp2_with fail
    refine (l03Shape_s _ _ _ (HX.out.below ((Below.refl _ _).alloc (Nat.le_refl _) _))).mono ?_
    rintro e w1 ⟨rfl, hb1⟩
    obtain ⟨B1, bA⟩ := box1 (cA := [_, _, _, _]) hb1
    clear hb1
    cases h1 : shape (.mk k n l kids)
    · have E1 := Lib.hid h1
      clear h1
      go_wp2
      go_ret
      exact ⟨ret_eq (by rw [HE.out, E1.out]; rfl), B1⟩
    · have E1 := Lib.hid h1
      clear h1
      go_wp2
      go_loopw [3] (fun i wr => ∃ q : Nat, q ≤ kids.length ∧ i = .int .i64 q ∧ NoneTo (fun y => !Ty.all shape y) kids q ∧ Below w1.heap.size w1 wr) (fun i _ => kids.length - (intOf i).toNat)
      case atStart => exact ⟨0, Nat.zero_le _, rfl, NoneTo.zero _ _, Below.refl _ _⟩
      case round =>
        obtain ⟨q, hq, rfl, hst, hb⟩ := hrel
        have Bw := B1.trans (hb.mono B1.size)
        have fA := bA.call hb
        have c := fA.cell
        by_cases hlt : q < kids.length
        · obtain ⟨x, hx⟩ : ∃ x, kids[q]? = some x := ⟨kids[q], List.getElem?_eq_getElem hlt⟩
          have hk0 : (0 : Int) ≤ (q : Int) := by omega
          have hk1 : (q : Int) < (kids.length : Int) := by omega
          obtain ⟨b, off, u0, u1, u2, u3, rfl, -, hbl, hat, c0, c1, c2, c3⟩ := rows_at4 Ty.len HV.out hx
          replace c0 := (Bw.cell (p := ⟨b, off + q * 4, none⟩) hbl).trans c0
          replace c1 := (Bw.cell (p := ⟨b, off + q * 4 + 1, none⟩) hbl).trans c1
          replace c2 := (Bw.cell (p := ⟨b, off + q * 4 + 2, none⟩) hbl).trans c2
          replace c3 := (Bw.cell (p := ⟨b, off + q * 4 + 3, none⟩) hbl).trans c3
          have HN := Lib.hid (And.intro hx hst)
          have HY := Lib.hid (HI.out x (List.mem_of_getElem? hx))
          have HA := Lib.hid (hat.below Bw)
          clear hx hst hat
          go_wp2_with fail
          refine (HY.out _ _ HA.out).mono ?_
          rintro e w2 ⟨rfl, hb2⟩
          have hb3 := hb.trans (hb2.mono hb.size)
          have Bw3 := Bw.trans (hb2.mono Bw.size)
          clear c0 c1 c2 c3 hb2 hb Bw c
          cases hs : Ty.all shape x
          · have HB := Lib.hid (any_bad (p := fun y => !Ty.all shape y) HN.out.1 (by rw [hs]; rfl))
            clear hs
            go_wp2
            go_ret
            exact ⟨ret_eq (by rw [HE.out, HB.out, E1.out]; rfl), Bw3⟩
          · have HB := Lib.hid (HN.out.2.next HN.out.1 (by rw [hs]; rfl))
            clear hs
            go_wp2
            go_roundw
            case rel => exact ⟨q + 1, by omega, by go_num, HB.out, hb3⟩
            case measure => simp [intOf]; omega
        · obtain rfl : q = kids.length := by omega
          have HB := Lib.hid hst.end_
          clear hst
          go_wp2
          go_ret
          exact ⟨ret_eq (by rw [HE.out, E1.out, HB.out]; rfl), Bw⟩

set_option maxHeartbeats 2000000 in
set_option maxRecDepth 20000 in
theorem l03Ok_s (x : Ty) (cs : List Value) (w : World) (hcs : D.Ats w anyB x.ds cs) :
    Calls Tryz.prog 76 #[.agg cs.toArray] w fun e w' => e = .returned (.bool (tyOk x)) ∧ Below w.heap.size w w' := by
  have HX := Lib.hid hcs
  obtain ⟨k, n, A0, m0, c0, A0', m0', c0', rfl⟩ := Ty.form hcs
  clear hcs
  go_enter Tryz.func76, Tryz.ntmps76
  go_wp2_with fail
  refine (l03Size_s 4 x _ 1 _ _ (by rfl) (by omega) (HX.out.below ((Below.refl _ _).alloc (Nat.le_refl _) _))).mono ?_
  rintro e w1 ⟨rfl, hb1⟩
  obtain ⟨B1, bA⟩ := box1 (cA := [_, _, _, _]) hb1
  clear hb1
  have c := bA.cell
  cases hs : fitsAt 1 x
  · obtain ⟨e1, e2, e3⟩ := size_fat hs
    rw [e1, e2]
    have E := Lib.hid (show tyOk x = false by
      unfold tyOk
      by_cases h : x.deep ≤ 4
      · rw [show decide (x.parts ≤ 24) = false from decide_eq_false (by omega)]; simp
      · rw [show decide (x.deep ≤ 4) = false from decide_eq_false h]; simp)
    clear e1 e2 e3 hs
    go_wp2
    go_ret
    exact ⟨ret_eq (by rw [E.out]; rfl), B1⟩
  · obtain ⟨e1, e2, e3, e4⟩ := size_fits hs
    rw [e1, e2]
    have E := Lib.hid (show tyOk x = Ty.all shape x by
      unfold tyOk
      rw [show decide (x.parts ≤ 24) = true from decide_eq_true (by omega), show decide (x.deep ≤ 4) = true from decide_eq_true (by omega)]; simp)
    have h1 : (x.deep : Int) ≤ 4 := by omega
    have h2 : (x.parts : Int) ≤ 24 := by omega
    clear e1 e2 e3 e4 hs
    go_wp2_with fail
    refine (l03Parts_s x _ _ (HX.out.below B1)).mono ?_
    rintro e w2 ⟨rfl, hb2⟩
    have B2 := B1.trans (hb2.mono B1.size)
    clear hb2 c
    go_wp2
    go_ret
    exact ⟨ret_eq (by rw [E.out]; rfl), B2⟩
set_option maxRecDepth 20000 in
theorem typeOk_s (x : Ty) (cs : List Value) (w : World) (hcs : D.Ats w anyB x.ds cs) :
    Calls Tryz.prog 46 #[.agg cs.toArray] w fun e w' => e = .returned (.bool (tyOk x)) ∧ Below w.heap.size w w' := by
  have HX := Lib.hid hcs
  obtain ⟨k, n, A0, m0, c0, A0', m0', c0', rfl⟩ := Ty.form hcs
  clear hcs
  go_enter Tryz.func46, Tryz.ntmps46
  go_wp2_with fail
  refine (l03Ok_s x _ _ (HX.out.below ((Below.refl _ _).alloc (Nat.le_refl _) _))).mono ?_
  rintro e w1 ⟨rfl, hb1⟩
  obtain ⟨B1, -⟩ := box1 (cA := [_, _, _, _]) hb1
  go_wp2
  go_ret
  exact ⟨rfl, B1⟩
end Go.Proofs.YtcpadaelgdmipaaGreatDoor
