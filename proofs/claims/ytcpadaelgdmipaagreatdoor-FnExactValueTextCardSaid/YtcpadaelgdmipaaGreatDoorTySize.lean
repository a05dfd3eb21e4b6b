/- How deep a type is and how many parts it has: by the reference and by the program. -/
import Derived.Test.YtcpadaelgdmipaaGreatDoorTyPlain
import Derived.Test.YtcpadaelgdmipaaGreatDoorNums
namespace Go.Proofs.YtcpadaelgdmipaaGreatDoor
open Go.RowKit

theorem l00Max_any (a b : Int) (w : World) : Calls Tryz.prog 117 #[.int .i64 a, .int .i64 b] w fun e w' => e = .returned (.int .i64 (max a b)) ∧ w = w' := by
  by_cases h : a > b
  all_goals
    go_enter Tryz.func117, Tryz.ntmps117
    go_wp2
    go_ret
    exact ⟨ret_eq (by rw [Int.max_def]; first | (rw [if_pos (by omega)]; rfl) | (rw [if_neg (by omega)]; rfl)), rfl⟩
/-- Between two rounds of the reference's measure. -/
theorem size_bad {L : Nat} {k : Int} {n : ByteArray} {l : List ByteArray} {kids : List Ty} (h : ¬ (Ty.deeps kids + 1 + L ≤ 5 ∧ Ty.partss kids + 1 ≤ 24)) : sizeD L (.mk k n l kids) = 5 ∧ sizeN L (.mk k n l kids) = 25 := by
  have : fitsAt L (.mk k n l kids) = false := by simp only [fitsAt, Ty.deep_mk, Ty.parts_mk]; exact decide_eq_false h
  simp [sizeD, sizeN, this]
theorem size_good {L : Nat} {k : Int} {n : ByteArray} {l : List ByteArray} {kids : List Ty} (h : Ty.deeps kids + 1 + L ≤ 5 ∧ Ty.partss kids + 1 ≤ 24) :
    sizeD L (.mk k n l kids) = Ty.deeps kids + 1 ∧ sizeN L (.mk k n l kids) = Ty.partss kids + 1 := by
  have : fitsAt L (.mk k n l kids) = true := by simp only [fitsAt, Ty.deep_mk, Ty.parts_mk]; exact decide_eq_true h
  simp [sizeD, sizeN, this, Ty.deep_mk, Ty.parts_mk]
theorem size_fits {L : Nat} {x : Ty} (h : fitsAt L x = true) : sizeD L x = x.deep ∧ sizeN L x = x.parts ∧ x.deep + L ≤ 5 ∧ x.parts ≤ 24 := by
  have h' := h
  simp only [fitsAt, decide_eq_true_eq] at h'
  simp [sizeD, sizeN, h, h']
theorem size_fat {L : Nat} {x : Ty} (h : fitsAt L x = false) : sizeD L x = 5 ∧ sizeN L x = 25 ∧ ¬ (x.deep + L ≤ 5 ∧ x.parts ≤ 24) := by
  have h' := h
  simp only [fitsAt, decide_eq_false_iff_not] at h'
  exact ⟨by simp [sizeD, h], by simp [sizeN, h], h'⟩

set_option maxHeartbeats 2000000 in
set_option maxRecDepth 20000 in
theorem l03Size_s (j : Nat) : ∀ (x : Ty) (cs : List Value) (L : Nat) (d : Int) (w : World), d = L → L + j = 5 → D.Ats w anyB x.ds cs →
    Calls Tryz.prog 98 #[.agg cs.toArray, .int .i64 d] w fun e w' => e = .returned (.tuple #[.int .i64 (sizeD L x), .int .i64 (sizeN L x)]) ∧ Below w.heap.size w w' := by
  induction j with
  | zero =>
    intro x cs L d w hd hL hcs
    have hd1 : (4 : Int) < d := by omega
    obtain ⟨k, n, l, kids⟩ := x
    obtain ⟨e1, e2⟩ := size_bad (L := L) (k := k) (n := n) (l := l) (kids := kids) (by omega)
    rw [e1, e2]
    clear e1 e2 hL hd
    obtain ⟨A, cap, B, cap2, rfl, -, -, hl, hk⟩ := Ty.open_ hcs
    clear hcs hl hk
    go_enter Tryz.func98, Tryz.ntmps98
    go_wp2
    go_ret2
    exact ⟨rfl, (by repeat (first | exact Below.refl _ _ | refine Below.alloc ?_ (by first | omega | (simp <;> omega)) _))⟩
  | succ j ih =>
    intro x cs L d w hd hL hcs
    have hd1 : ¬ (4 : Int) < d := by omega
    have hd2 : 0 ≤ d := by omega
    obtain ⟨k, n, l, kids⟩ := x
    obtain ⟨A, cap, B, cap2, rfl, -, -, hl, hk⟩ := Ty.open_ hcs
    obtain ⟨-, hn, hc⟩ := rows_bound hk
    unfold maxLen at hc
    have HV := Lib.hid hk
    have HL := Lib.hid (And.intro hd hL)
    have HI := Lib.hid ih
    have HP := Lib.hid (Ty.length_parts kids)
    clear hcs hl hk hL hd ih
    by_cases hk24 : kids.length ≤ 24
    · have hk24i : ¬ ((24 : Int) < (kids.length : Int)) := by omega
      go_enter Tryz.func98, Tryz.ntmps98
      go_wp2
      go_loopw [6, 7, 8, 9, 10, 26] (fun most parts i _ _ _ wr => ∃ q m p : Nat, q ≤ kids.length ∧ i = .int .i64 q ∧ most = .int .i64 m ∧ parts = .int .i64 p ∧ m = Ty.deeps (kids.take q) ∧ p = Ty.partss (kids.take q) + 1 ∧ m + L ≤ 4 ∧ p ≤ 24 ∧ Below (w.alloc (.cells #[.int .i64 k, .string n, .slice A l.length cap, .slice B kids.length cap2] 40)).heap.size (w.alloc (.cells #[.int .i64 k, .string n, .slice A l.length cap, .slice B kids.length cap2] 40)) wr) (fun _ _ i _ _ _ _ => kids.length - (intOf i).toNat)
      case atStart => exact ⟨0, 0, 1, Nat.zero_le _, rfl, rfl, rfl, by simp [Ty.deeps], by simp [Ty.partss], by have := HL.out; omega, by omega, Below.refl _ _⟩
      case round =>
        obtain ⟨q, m, p, hq, rfl, rfl, rfl, hm, hp, hm4, hp24, hb⟩ := hrel
        obtain ⟨Bw, bA⟩ := box1 (cA := [_, _, _, _]) hb
        have c := bA.cell
        have HM := Lib.hid (And.intro hm hp)
        clear hm hp
        by_cases hlt : q < kids.length
        · have HX : ∃ x, kids[q]? = some x := ⟨kids[q], List.getElem?_eq_getElem hlt⟩
          obtain ⟨x, hx⟩ := HX
          have hk0 : (0 : Int) ≤ (q : Int) := by omega
          have hk1 : (q : Int) < (kids.length : Int) := by omega
          obtain ⟨b, off, u0, u1, u2, u3, rfl, -, hbl, hat, c0, c1, c2, c3⟩ := rows_at4 Ty.len HV.out hx
          replace c0 := (Bw.cell (p := ⟨b, off + q * 4, none⟩) hbl).trans c0
          replace c1 := (Bw.cell (p := ⟨b, off + q * 4 + 1, none⟩) hbl).trans c1
          replace c2 := (Bw.cell (p := ⟨b, off + q * 4 + 2, none⟩) hbl).trans c2
          replace c3 := (Bw.cell (p := ⟨b, off + q * 4 + 3, none⟩) hbl).trans c3
          have HN := Lib.hid hx
          have hw1 : IntKind.i64.wrap (d + 1) = d + 1 := by rw [IntKind.wrap_i64]; have := HL.out; omega
          clear hx
          go_wp2_with fail
          refine (HI.out x _ (L + 1) _ _ (by have := HL.out.1; omega) (by have := HL.out; omega) (hat.below Bw)).mono ?_
          rintro e w2 ⟨rfl, hb2⟩
          have hb3 := hb.trans (hb2.mono hb.size)
          obtain ⟨Bw3, -⟩ := box1 (cA := [_, _, _, _]) hb3
          clear c0 c1 c2 c3 hw1 hb2 hb hat Bw c
          have hxm := HN.out
          have dm := Ty.deep_mem (List.mem_of_getElem? hxm)
          have pm := Ty.parts_mem (List.mem_of_getElem? hxm)
          have dn := Ty.deeps_next hxm
          have pn := Ty.partss_next hxm
          have pt := Ty.partss_take kids (q + 1)
          have ⟨hm, hp⟩ := HM.out
          clear hxm
          cases hs : fitsAt (L + 1) x
          · obtain ⟨e1, e2, e3⟩ := size_fat hs
            rw [e1, e2]
            have E := Lib.hid (size_bad (L := L) (k := k) (n := n) (l := l) (kids := kids) (by omega))
            have hp25 : (24 : Int) < (p : Int) + 25 := by omega
            have hw2 : IntKind.i64.wrap ((p : Int) + 25) = (p : Int) + 25 := by rw [IntKind.wrap_i64]; omega
            clear e1 e2 e3 dm pm dn pn pt hm hp hs
            go_wp2_with fail
            refine (l00Max_any _ _ _).mono ?_
            rintro e w4 ⟨rfl, rfl⟩
            go_wp2
            go_ret2
            exact ⟨ret_eq (by rw [E.out.1, E.out.2]; rfl), Bw3⟩
          · obtain ⟨e1, e2, e3, e4⟩ := size_fits hs
            rw [e1, e2]
            have hp1 := Ty.parts_pos x
            have hd1 := Ty.deep_pos x
            have hw2 : IntKind.i64.wrap ((p : Int) + (x.parts : Int)) = (p : Int) + (x.parts : Int) := by rw [IntKind.wrap_i64]; omega
            by_cases h24 : p + x.parts ≤ 24
            · have h24i : ¬ (24 : Int) < (p : Int) + (x.parts : Int) := by omega
              have F := Lib.hid (show max (m : Int) (x.deep : Int) = ((Ty.deeps (kids.take (q + 1)) : Nat) : Int) ∧ p + x.parts = Ty.partss (kids.take (q + 1)) + 1 ∧ Ty.deeps (kids.take (q + 1)) + L ≤ 4 by rw [dn, pn]; omega)
              clear e1 e2 e3 e4 dm pm dn pn pt hm hp hs hp1 hd1
              go_wp2_with fail
              refine (l00Max_any _ _ _).mono ?_
              rintro e w4 ⟨rfl, rfl⟩
              go_wp2
              go_roundw
              case rel => exact ⟨q + 1, Ty.deeps (kids.take (q + 1)), p + x.parts, by omega, by go_num, by rw [F.out.1], by go_num, rfl, F.out.2.1, F.out.2.2, h24, hb3⟩
              case measure => simp [intOf]; omega
            · have h24i : (24 : Int) < (p : Int) + (x.parts : Int) := by omega
              have E := Lib.hid (size_bad (L := L) (k := k) (n := n) (l := l) (kids := kids) (by omega))
              clear e1 e2 e3 e4 dm pm dn pn pt hm hp hs hp1 hd1
              go_wp2_with fail
              refine (l00Max_any _ _ _).mono ?_
              rintro e w4 ⟨rfl, rfl⟩
              go_wp2
              go_ret2
              exact ⟨ret_eq (by rw [E.out.1, E.out.2]; rfl), Bw3⟩
        · obtain rfl : q = kids.length := by omega
          have ⟨hm, hp⟩ := HM.out
          rw [List.take_length] at hm hp
          have E := Lib.hid (size_good (L := L) (k := k) (n := n) (l := l) (kids := kids) (by omega))
          have hw2 : IntKind.i64.wrap ((m : Int) + 1) = (m : Int) + 1 := by rw [IntKind.wrap_i64]; omega
          have F := Lib.hid (And.intro hm hp)
          clear hm hp
          go_wp2
          go_ret2
          exact ⟨ret_eq (by rw [E.out.1, E.out.2, F.out.1, F.out.2]; rfl), Bw⟩
    · have hk24i : (24 : Int) < (kids.length : Int) := by omega
      obtain ⟨e1, e2⟩ := size_bad (L := L) (k := k) (n := n) (l := l) (kids := kids) (by have := HP.out; omega)
      rw [e1, e2]
      clear e1 e2
      go_enter Tryz.func98, Tryz.ntmps98
      go_wp2
      go_ret2
      exact ⟨rfl, (by repeat (first | exact Below.refl _ _ | refine Below.alloc ?_ (by first | omega | (simp <;> omega)) _))⟩
end Go.Proofs.YtcpadaelgdmipaaGreatDoor
