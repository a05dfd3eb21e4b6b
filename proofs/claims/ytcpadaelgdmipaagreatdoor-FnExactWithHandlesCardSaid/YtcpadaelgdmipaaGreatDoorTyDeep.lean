/- How deep a type is and how many parts it has: by the program. -/
import Derived.Test.YtcpadaelgdmipaaGreatDoorTyPlain
import Derived.Test.YtcpadaelgdmipaaGreatDoorCore
namespace Go.Proofs.YtcpadaelgdmipaaGreatDoor
open Go.RowKit

set_option maxHeartbeats 2000000 in
set_option maxRecDepth 20000 in
theorem deep_i (j : Nat) : ∀ (x : Ty) (cs : List Value) (d : Int) (w : World), d = j → j ≤ 4 → D.Ats w anyB x.ds cs →
    Calls Tryz.prog 83 #[.agg cs.toArray, .int .i64 d] w fun e w' => e = .returned (.int .i64 ((min x.deep (j + 1) : Nat) : Int)) ∧ Below w.heap.size w w' := by
  induction j with
  | zero =>
    intro x cs d w hd _ hcs
    obtain rfl : d = 0 := by omega
    have e1 : min x.deep (0 + 1) = 1 := by have := x.deep_pos; omega
    rw [e1]
    obtain ⟨k, n, l, kids⟩ := x
    clear e1 hd
    obtain ⟨A, cap, B, cap2, rfl, -, -, hl, hk⟩ := Ty.open_ hcs
    clear hcs hl hk
    go_enter Tryz.func83, Tryz.ntmps83
    go_wp2
    go_ret
    exact ⟨rfl, (by repeat (first | exact Below.refl _ _ | refine Below.alloc ?_ (by first | omega | (simp <;> omega)) _))⟩
  | succ j ih =>
    intro x cs d w hd hj hcs
    have hd1 : (d == 0) = false := beq_eq_false_iff_ne.2 (by omega)
    have hd2 : 1 ≤ d := by omega
    have hd3 : d ≤ 4 := by omega
    obtain ⟨k, n, l, kids⟩ := x
    obtain ⟨A, cap, B, cap2, rfl, -, -, hl, hk⟩ := Ty.open_ hcs
    obtain ⟨-, hn, hc⟩ := rows_bound hk
    unfold maxLen at hc
    have HV := Lib.hid hk
    have HL := Lib.hid (And.intro hd hj)
    have HI := Lib.hid ih
    clear hcs hl hk hj hd ih
    go_enter Tryz.func83, Tryz.ntmps83
    go_wp2
    go_loopw [5, 7, 13] (fun most _ i wr => ∃ q m : Nat, q ≤ kids.length ∧ i = .int .i64 q ∧ most = .int .i64 m ∧ m = min (Ty.deeps (kids.take q)) (j + 1) ∧ Below (w.alloc (.cells #[.int .i64 k, .string n, .slice A l.length cap, .slice B kids.length cap2] 40)).heap.size (w.alloc (.cells #[.int .i64 k, .string n, .slice A l.length cap, .slice B kids.length cap2] 40)) wr) (fun _ _ i _ => kids.length - (intOf i).toNat)
    case atStart => exact ⟨0, 0, Nat.zero_le _, rfl, rfl, by simp [Ty.deeps], Below.refl _ _⟩
    case round =>
      obtain ⟨q, m, hq, rfl, rfl, hm, hb⟩ := hrel
      obtain ⟨Bw, bA⟩ := box1 (cA := [_, _, _, _]) hb
      have HM := Lib.hid hm
      have hm5 : m ≤ 5 := by have := HL.out; omega
      clear hm bA
      by_cases hlt : q < kids.length
      · have HX : ∃ x, kids[q]? = some x := ⟨kids[q], List.getElem?_eq_getElem hlt⟩
        obtain ⟨x, hx⟩ := HX
        have hk0 : (0 : Int) ≤ (q : Int) := by omega
        have hk1 : (q : Int) < (kids.length : Int) := by omega
        obtain ⟨b, off, u0, u1, u2, u3, rfl, -, hbl, hat, c0, c1, c2, c3⟩ := rows_at4 Ty.len HV.out hx
        replace c0 := (Bw.cell (p := ⟨b, off + q * 4, none⟩) hbl).trans c0
        replace c1 := (Bw.cell (p := ⟨b, off + q * 4 + 1, none⟩) hbl).trans c1
        replace c2 := (Bw.cell (p := ⟨b, off + q * 4 + 2, none⟩) hbl).trans c2
        replace c3 := (Bw.cell (p := ⟨b, off + q * 4 + 3, none⟩) hbl).trans c3
        have HN := Lib.hid hx
        have hw1 : IntKind.i64.wrap (d - 1) = d - 1 := by rw [IntKind.wrap_i64]; omega
        clear hx
        obtain ⟨z0, z1, z2, z3, z4, z5, z6, z7, e3⟩ := Ty.form hat
        simp only [List.cons.injEq, and_true] at e3
        obtain ⟨rfl, rfl, rfl, rfl⟩ := e3
        go_wp2_with fail
        refine (HI.out x _ _ _ (by have := HL.out.1; omega) (by have := HL.out; omega) ((hat.below Bw).below (by repeat (first | exact Below.refl _ _ | refine Below.alloc ?_ (by first | omega | (simp <;> omega)) _)))).mono ?_
        rintro e w2 ⟨rfl, hb2⟩
        have hb3 := hb.trans (Below.trans ((Below.refl _ _).alloc (Nat.le_refl _) _) (hb2.mono (by simp)) |>.mono hb.size)
        have F := Lib.hid (show max (m : Int) ((min x.deep (j + 1) : Nat) : Int) = ((min (Ty.deeps (kids.take (q + 1))) (j + 1) : Nat) : Int) by rw [Ty.deeps_next HN.out, HM.out]; omega)
        clear c0 c1 c2 c3 hw1 hb2 hb hat Bw
        go_wp2
        go_roundw
        case rel => exact ⟨q + 1, min (Ty.deeps (kids.take (q + 1))) (j + 1), by omega, by go_num, by rw [← F.out], rfl, hb3⟩
        case measure => simp [intOf]; omega
      · obtain rfl : q = kids.length := by omega
        have hm := HM.out
        rw [List.take_length] at hm
        have F := Lib.hid (show ((min (Ty.deep (.mk k n l kids)) (j + 1 + 1) : Nat) : Int) = (m : Int) + 1 by rw [Ty.deep_mk]; omega)
        have hw2 : IntKind.i64.wrap ((m : Int) + 1) = (m : Int) + 1 := by rw [IntKind.wrap_i64]; omega
        clear hm
        go_wp2
        go_ret
        exact ⟨ret_eq (by rw [F.out]; rfl), Bw⟩

set_option maxHeartbeats 2000000 in
set_option maxRecDepth 20000 in
theorem parts_i (x : Ty) : ∀ (cs : List Value) (w : World), D.Ats w anyB x.ds cs → x.parts ≤ 2000000 →
    Calls Tryz.prog 84 #[.agg cs.toArray] w fun e w' => e = .returned (.int .i64 (x.parts : Int)) ∧ Below w.heap.size w w' := by
  induction x using Ty.ind with
  | h k n l kids ih =>
    intro cs w hcs hT
    obtain ⟨A, cap, B, cap2, rfl, -, -, hl, hk⟩ := Ty.open_ hcs
    obtain ⟨-, hn, hc⟩ := rows_bound hk
    unfold maxLen at hc
    have HV := Lib.hid hk
    have HI := Lib.hid ih
    rw [Ty.parts_mk] at hT ⊢
    have hT2 : Ty.partss kids ≤ 1999999 := by omega
    have E := Lib.hid (show ((Ty.partss kids + 1 : Nat) : Int) = ((Ty.partss kids + 1 : Nat) : Int) from rfl)
    clear hcs hl hk ih hT
    go_enter Tryz.func84, Tryz.ntmps84
    go_wp2
    go_loopw [3, 5, 9] (fun most _ i wr => ∃ q m : Nat, q ≤ kids.length ∧ i = .int .i64 q ∧ most = .int .i64 m ∧ m = Ty.partss (kids.take q) + 1 ∧ Below (w.alloc (.cells #[.int .i64 k, .string n, .slice A l.length cap, .slice B kids.length cap2] 40)).heap.size (w.alloc (.cells #[.int .i64 k, .string n, .slice A l.length cap, .slice B kids.length cap2] 40)) wr) (fun _ _ i _ => kids.length - (intOf i).toNat)
    case atStart => exact ⟨0, 1, Nat.zero_le _, rfl, rfl, by simp [Ty.partss], Below.refl _ _⟩
    case round =>
      obtain ⟨q, m, hq, rfl, rfl, hm, hb⟩ := hrel
      obtain ⟨Bw, bA⟩ := box1 (cA := [_, _, _, _]) hb
      have HM := Lib.hid hm
      have hm5 : m ≤ 2000000 := by have := Ty.partss_take kids q; omega
      clear hm bA
      by_cases hlt : q < kids.length
      · have HX : ∃ x, kids[q]? = some x := ⟨kids[q], List.getElem?_eq_getElem hlt⟩
        obtain ⟨x, hx⟩ := HX
        have hk0 : (0 : Int) ≤ (q : Int) := by omega
        have hk1 : (q : Int) < (kids.length : Int) := by omega
        obtain ⟨b, off, u0, u1, u2, u3, rfl, -, hbl, hat, c0, c1, c2, c3⟩ := rows_at4 Ty.len HV.out hx
        replace c0 := (Bw.cell (p := ⟨b, off + q * 4, none⟩) hbl).trans c0
        replace c1 := (Bw.cell (p := ⟨b, off + q * 4 + 1, none⟩) hbl).trans c1
        replace c2 := (Bw.cell (p := ⟨b, off + q * 4 + 2, none⟩) hbl).trans c2
        replace c3 := (Bw.cell (p := ⟨b, off + q * 4 + 3, none⟩) hbl).trans c3
        have HN := Lib.hid hx
        have hpx : x.parts ≤ 2000000 := by have := Ty.parts_mem (List.mem_of_getElem? hx); omega
        have hw1 : IntKind.i64.wrap ((m : Int) + (x.parts : Int)) = (m : Int) + (x.parts : Int) := by rw [IntKind.wrap_i64]; omega
        clear hx
        obtain ⟨z0, z1, z2, z3, z4, z5, z6, z7, e3⟩ := Ty.form hat
        simp only [List.cons.injEq, and_true] at e3
        obtain ⟨rfl, rfl, rfl, rfl⟩ := e3
        go_wp2_with fail
        refine (HI.out x (List.mem_of_getElem? HN.out) _ _ ((hat.below Bw).below (by repeat (first | exact Below.refl _ _ | refine Below.alloc ?_ (by first | omega | (simp <;> omega)) _))) hpx).mono ?_
        rintro e w2 ⟨rfl, hb2⟩
        have hb3 := hb.trans (Below.trans ((Below.refl _ _).alloc (Nat.le_refl _) _) (hb2.mono (by simp)) |>.mono hb.size)
        have F := Lib.hid (show m + x.parts = Ty.partss (kids.take (q + 1)) + 1 by rw [Ty.partss_next HN.out, HM.out]; omega)
        clear c0 c1 c2 c3 hb2 hb hat Bw
        go_wp2
        go_roundw
        case rel => exact ⟨q + 1, m + x.parts, by omega, by go_num, by go_num, F.out, hb3⟩
        case measure => simp [intOf]; omega
      · obtain rfl : q = kids.length := by omega
        have hm := HM.out
        rw [List.take_length] at hm
        have F := Lib.hid hm
        clear hm
        go_wp2
        go_ret
        exact ⟨ret_eq (by rw [← F.out]; rfl), Bw⟩
end Go.Proofs.YtcpadaelgdmipaaGreatDoor
