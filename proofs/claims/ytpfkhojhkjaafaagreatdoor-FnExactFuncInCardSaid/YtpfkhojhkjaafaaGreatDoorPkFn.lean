/- A function's type is valid: by the reference. A function's type is valid: by the program; the reference's FuncOk. Faces: which names a function's type holds; names in order. Plain, and the small walks. -/
import Derived.Test.YtpfkhojhkjaafaaGreatDoorTyOkS
import Derived.Test.YtpfkhojhkjaafaaGreatDoorTyOkI
import Derived.Deep.QuietTactic
import Derived.BigQuiet
import Derived.Test.YtpfkhojhkjaafaaGreatDoorAppS
import Derived.Test.YtpfkhojhkjaafaaGreatDoorPkR0
import Derived.Test.YtpfkhojhkjaafaaGreatDoorIdx
import Derived.Test.YtpfkhojhkjaafaaGreatDoorVer
import Derived.Test.YtpfkhojhkjaafaaGreatDoorTyKids
namespace Go.Proofs.YtpfkhojhkjaafaaGreatDoor
open Go.RowKit

def paOk (p : Pa) : Bool := nameOk p.name && (tyOk p.ty && !isU p.ty)
def resOk (x : Ty) : Bool := tyOk x && !(x.has fun q => q == 21)
def pasOk (l : List Pa) : Bool := decide (l.length ≤ 6) && (!(l.any fun p => !paOk p) && nodupS (l.map Pa.name))
def fnOk (f : Fn) : Bool := pasOk f.params && resOk f.res

set_option maxHeartbeats 4000000 in
set_option maxRecDepth 20000 in
theorem l03Func_s (x : Fn) (cs : List Value) (w : World) (hcs : D.Ats w anyB x.ds cs) :
    Calls Tryz.prog 73 #[.agg cs.toArray] w fun e w' => e = .returned (.bool (fnOk x)) ∧ Below w.heap.size w w' := by
  obtain ⟨ps, res, async⟩ := x
  obtain ⟨B, d, k, n, A, m, c0, A', m', c1, rfl, hp, hr⟩ := Fn.open_ hcs
  simp only at hp hr
  obtain ⟨-, hn, hc⟩ := rows_bound hp
  unfold maxLen at hc
  have HV := Lib.hid hp
  have HR := Lib.hid hr
  have HE := Lib.hid (show fnOk ⟨ps, res, async⟩ = (pasOk ps && resOk res) from rfl)
  clear hcs hp hr
  by_cases hlen : (6 : Int) < (ps.length : Int)
  · have E := Lib.hid (show pasOk ps = false by unfold pasOk; rw [show decide (ps.length ≤ 6) = false from decide_eq_false (by omega)]; rfl)
    go_enter Tryz.func73, Tryz.ntmps73
    go_wp2
    go_ret
    exact ⟨ret_eq (by rw [HE.out, E.out]; rfl), by repeat (first | exact Below.refl _ _ | refine Below.alloc ?_ (by first | omega | (simp <;> omega)) _)⟩
  · have E := Lib.hid (show pasOk ps = (!(ps.any fun p => !paOk p) && nodupS (ps.map Pa.name)) by unfold pasOk; rw [show decide (ps.length ≤ 6) = true from decide_eq_true (by omega)]; rfl)
    go_enter Tryz.func73, Tryz.ntmps73
    go_wp2_with fail
    refine (l03Ok_s res _ _ (HR.out.below ((Below.refl _ _).alloc (Nat.le_refl _) _))).mono ?_
    rintro e w1 ⟨rfl, hb1⟩
    obtain ⟨B1, bA⟩ := box1 (cA := [_, _, _, _, _, _]) hb1
    clear hb1
    have c := bA.cell
    cases h1 : tyOk res
    · have E1 := Lib.hid (show resOk res = false by unfold resOk; rw [h1]; rfl)
      clear c h1
      go_wp2
      go_ret
      exact ⟨ret_eq (by rw [HE.out, E1.out, Bool.and_false]; rfl), B1⟩
    · have E1 := Lib.hid h1
      clear h1
      go_wp2_with fail
      refine (l03Has_s 21 21 res _ _ (HR.out.below B1)).mono ?_
      rintro e w2 ⟨rfl, hb2⟩
      rw [hass21]
      have B2 := B1.trans (hb2.mono B1.size)
      replace bA := bA.call hb2
      clear c hb2
      cases h2 : res.has fun q => q == 21
      case true =>
        have E2 := Lib.hid (show resOk res = false by unfold resOk; rw [E1.out, h2]; rfl)
        clear h2
        go_wp2
        go_ret
        exact ⟨ret_eq (by rw [HE.out, E2.out, Bool.and_false]; rfl), B2⟩
      have E2 := Lib.hid (show resOk res = true by unfold resOk; rw [E1.out, h2]; rfl)
      clear h2
      have c := bA.cell
      go_wp2
      go_loopw [3, 4, 5] (fun i _ _ wr => ∃ q : Nat, q ≤ ps.length ∧ i = .int .i64 q ∧ NoneTo (fun p => !paOk p) ps q ∧ nodupS ((ps.map Pa.name).take q) = true ∧ Below w2.heap.size w2 wr) (fun i _ _ _ => ps.length - (intOf i).toNat)
      case atStart => exact ⟨0, Nat.zero_le _, rfl, NoneTo.zero _ _, by simp [nodupS], Below.refl _ _⟩
      case round =>
        obtain ⟨q, hq, rfl, hst, hnd, hb⟩ := hrel
        have Bw := B2.trans (hb.mono B2.size)
        have fA := bA.call hb
        clear c
        have c := fA.cell
        by_cases hlt : q < ps.length
        · obtain ⟨x, hx⟩ : ∃ x, ps[q]? = some x := ⟨ps[q], List.getElem?_eq_getElem hlt⟩
          have hk0 : (0 : Int) ≤ (q : Int) := by omega
          have hk1 : (q : Int) < (ps.length : Int) := by omega
          obtain ⟨b, off, u0, u1, u2, u3, u4, rfl, -, hbl, hat, d0, d1, d2, d3, d4⟩ := rows_at5 Pa.len HV.out hx
          replace d0 := (Bw.cell (p := ⟨b, off + q * 5, none⟩) hbl).trans d0
          replace d1 := (Bw.cell (p := ⟨b, off + q * 5 + 1, none⟩) hbl).trans d1
          replace d2 := (Bw.cell (p := ⟨b, off + q * 5 + 2, none⟩) hbl).trans d2
          replace d3 := (Bw.cell (p := ⟨b, off + q * 5 + 3, none⟩) hbl).trans d3
          replace d4 := (Bw.cell (p := ⟨b, off + q * 5 + 4, none⟩) hbl).trans d4
          have HN := Lib.hid (And.intro hx (And.intro hst hnd))
          obtain ⟨pn, ⟨k', n', l', kids'⟩⟩ := x
          obtain ⟨v0, v1, v2, v3, v4, v5, v6, v7, e3, hpn, hty⟩ := Pa.open_ hat
          simp only [List.cons.injEq, and_true] at e3
          obtain ⟨rfl, rfl, rfl, rfl, rfl⟩ := e3
          obtain ⟨z0, z1, z2, z3, e4, -⟩ := Ty.open_ hty
          simp only [List.cons.injEq, and_true, Value.int.injEq, true_and, Value.string.injEq, Value.slice.injEq] at e4
          obtain ⟨rfl, rfl, ⟨rfl, rfl, rfl⟩, ⟨rfl, rfl, rfl⟩⟩ := e4
          have HT := Lib.hid (hty.below Bw)
          clear hx hst hnd hat hty
          go_wp2_with fail
          refine (l03Name_s pn hpn _).mono ?_
          rintro e w3 ⟨rfl, rfl⟩
          cases h3 : nameOk pn
          · have HB := Lib.hid (any_bad (p := fun p => !paOk p) HN.out.1 (by simp [paOk, h3]))
            clear h3
            go_wp2
            go_ret
            exact ⟨ret_eq (by rw [HE.out, E.out, HB.out]; rfl), by repeat (first | exact Bw | refine Below.alloc ?_ (by have := Bw.size; first | omega | (simp <;> omega)) _)⟩
          · have E3 := Lib.hid h3
            clear h3
            go_wp2_with fail
            refine (l03Ok_s (.mk v0 v1 l' kids') _ _ (HT.out.below ((Below.refl _ _).alloc (Nat.le_refl _) _))).mono ?_
            rintro e w4 ⟨rfl, hb4⟩
            obtain ⟨Bx4, bP⟩ := box1 (cA := [_, _, _, _, _]) hb4
            have B4 := Bw.trans (Bx4.mono Bw.size)
            have hb4' := hb.trans (Bx4.mono hb.size)
            have fA4 := fA.call Bx4
            clear c hb4 d0 d1 d2 d3 d4 HT
            have cP := bP.cell
            cases h4 : tyOk (.mk v0 v1 l' kids')
            · have HB := Lib.hid (any_bad (p := fun p => !paOk p) HN.out.1 (by simp [paOk, h4]))
              clear h4
              go_wp2
              go_ret
              exact ⟨ret_eq (by rw [HE.out, E.out, HB.out]; rfl), B4⟩
            · have E4 := Lib.hid h4
              clear h4
              cases h5 : (v0 == 1)
              case true =>
                have HB := Lib.hid (any_bad (p := fun p => !paOk p) HN.out.1 (by simp only [paOk, show isU (.mk v0 v1 l' kids') = true from h5]; simp))
                go_wp2
                go_ret
                exact ⟨ret_eq (by rw [HE.out, E.out, HB.out]; rfl), B4⟩
              have HG := Lib.hid (HN.out.2.1.next HN.out.1 (by simp only [paOk, show isU (.mk v0 v1 l' kids') = false from h5, E3.out, E4.out]; rfl))
              have HM : ((ps.map Pa.name))[q]? = some pn := by rw [List.getElem?_map, HN.out.1]; rfl
              have HMM := Lib.hid HM
              clear HM
              go_wp2
              go_loopw [5] (fun j wr2 => ∃ k : Nat, k ≤ q ∧ j = .int .i64 k ∧ NoneTo (fun y => sameS y pn) (ps.map Pa.name) k ∧ Below w4.heap.size w4 wr2) (fun i _ => q - (intOf i).toNat)
              case atStart => exact ⟨0, Nat.zero_le _, rfl, NoneTo.zero _ _, Below.refl _ _⟩
              case round =>
                obtain ⟨j, hj, rfl, hst2, hb5⟩ := hrel
                clear cP
                have B5 := B4.trans (hb5.mono B4.size)
                have hb5' := hb4'.trans (hb5.mono hb4'.size)
                by_cases hltj : j < q
                · have hlj : j < ps.length := by omega
                  obtain ⟨y, hy⟩ : ∃ y, ps[j]? = some y := ⟨ps[j], List.getElem?_eq_getElem hlj⟩
                  have hj0 : (0 : Int) ≤ (j : Int) := by omega
                  have hj1 : (j : Int) < (ps.length : Int) := by omega
                  obtain ⟨b', off', y0, y1, y2, y3, y4, hA, -, hbl', hat', g0, -⟩ := rows_at5 Pa.len HV.out hy
                  obtain ⟨rfl, rfl⟩ : b = b' ∧ off = off' := by simpa using hA
                  obtain ⟨x0, x1, x2, x3, x4, x5, x6, x7, e3, -, -⟩ := Pa.open_ hat'
                  simp only [List.cons.injEq, and_true] at e3
                  obtain ⟨rfl, -⟩ := e3
                  replace g0 := cell_regrown ((B5.cell (p := ⟨b, off + j * 5, none⟩) hbl).trans g0)
                  have cA := ((fA4.call hb5).cell)
                  have cB := ((bP.call hb5).cell)
                  have f0 := cell_regrown (show wr.cell? ⟨w.heap.size, 0, none⟩ = some (.slice (some ⟨b, off, none⟩) ps.length d) from cA 0)
                  have HY : ((ps.map Pa.name))[j]? = some y.name := by rw [List.getElem?_map, hy]; rfl
                  have HN2 := Lib.hid (And.intro HY hst2)
                  clear HY hy hst2 hA hat'
                  have fP := cell_regrown (show World.cell? _ _ = some (.string pn) from cB 0)
                  cases hs : (y.name.toList == pn.toList)
                  · have HC := Lib.hid (HN2.out.2.next HN2.out.1 (show sameS y.name pn = false from hs))
                    go_wp2_with fail
                    refine wp_region_quiet_below (by kernel_rfl) (by kernel_rfl) ?_
                    repeat (first | go_big_quiet_step (fail) | quiet_step (fail))
                    refine wpQuiet_nil ?_
                    intro w6 hw6
                    have hb6 := hb5.trans ((below_of_regrown hw6).mono hb5.size)
                    clear hw6 g0 f0 fP cA cB
                    go_wp2
                    go_roundw
                    case rel => exact ⟨j + 1, by omega, by go_num, HC.out, hb6⟩
                    case measure => simp [intOf]; omega
                  · have HC := Lib.hid (nodupS_take (l := ps.map Pa.name) (q := q + 1) (by
                      rw [nodupS_next HMM.out, any_bad (p := fun y => sameS y pn) (k := j) (by rw [List.getElem?_take_of_lt hltj]; exact HN2.out.1) hs]; simp))
                    go_wp2_with fail
                    refine wp_region_quiet_below (by kernel_rfl) (by kernel_rfl) ?_
                    repeat (first | go_big_quiet_step (fail) | quiet_step (fail))
                    refine wpQuiet_nil ?_
                    intro w6 hw6
                    have B6 := B5.trans ((below_of_regrown hw6).mono B5.size)
                    clear hw6 g0 f0 fP cA cB
                    go_wp2
                    go_ret
                    exact ⟨ret_eq (by rw [HE.out, E.out, HC.out, Bool.and_false]; rfl), B6⟩
                · obtain rfl : j = q := by omega
                  have HC := Lib.hid (show nodupS ((ps.map Pa.name).take (j + 1)) = true by rw [nodupS_next HMM.out, HN.out.2.2]; unfold NoneTo at hst2; rw [hst2]; rfl)
                  clear hst2
                  go_wp2
                  go_roundw
                  case rel => exact ⟨j + 1, by omega, by go_num, HG.out, HC.out, hb5'⟩
                  case measure => simp [intOf]; omega
        · obtain rfl : q = ps.length := by omega
          rw [show (ps.map Pa.name).take ps.length = ps.map Pa.name from List.take_of_length_le (by simp)] at hnd
          have HB := Lib.hid (And.intro hst.end_ hnd)
          clear hst hnd
          go_wp2
          go_ret
          exact ⟨ret_eq (by rw [HE.out, E.out, HB.out.1, HB.out.2, E2.out]; rfl), Bw⟩
end Go.Proofs.YtpfkhojhkjaafaaGreatDoor
namespace Go.Proofs.YtpfkhojhkjaafaaGreatDoor
open Go.RowKit Go.Shelf

theorem isUnit_c (x : Ty) (cs : List Value) (w : World) (h : D.Ats w anyB x.ds cs) : Calls Tryz.prog 166 #[.agg cs.toArray] w fun e w' => e = .returned (.bool (isU x)) ∧ Below w.heap.size w w' := isUnit_i x cs w trivial h
set_option maxHeartbeats 4000000 in
set_option maxRecDepth 20000 in
theorem paramsOk_i (ps : List Pa) (B : Option Addr) (d : Nat) (w : World) (hv : D.At w anyB (rows Pa.ds 5 ps) (.slice B ps.length d)) (hpb : ∀ p ∈ ps, p.ty.parts ≤ 2000000) (hlb : ps.length ≤ 1048576) :
    Calls Tryz.prog 131 #[.slice B ps.length d] w fun e w' => e = .returned (.bool (pasOk ps)) ∧ Below w.heap.size w w' := by
  obtain ⟨-, hn, hc⟩ := rows_bound hv
  unfold maxLen at hc
  have HV := Lib.hid hv
  have HPB := Lib.hid hpb
  clear hv hpb
  go_enter Tryz.func131, Tryz.ntmps131
  go_wp2
  go_loopw [3, 5, 9] (fun v _ i wr => ∃ k : Nat, k ≤ ps.length ∧ i = .int .i64 k ∧ wr.ownsRow w.heap.size 9 1 v k (((ps.take k).map Pa.name).map Value.string) ∧ (∃ g c, v = .slice (some ⟨g, 0, none⟩) k c) ∧ NoneTo (fun p => !paOk p) ps k ∧ Below w.heap.size w wr) (fun _ _ i _ => ps.length - (intOf i).toNat)
  case atStart => exact ⟨0, Nat.zero_le _, rfl, World.ownsRow_lit _ _ _ (Nat.le_refl _) (by decide) (by rfl), ⟨_, _, rfl⟩, NoneTo.zero _ _, (Below.refl _ _).alloc (Nat.le_refl _) _⟩
  case round =>
    obtain ⟨k, hk, rfl, hown, ⟨g, cg, rfl⟩, hst, hb⟩ := hrel
    by_cases hlt : k < ps.length
    · obtain ⟨x, hx⟩ : ∃ x, ps[k]? = some x := ⟨ps[k], List.getElem?_eq_getElem hlt⟩
      have hk0 : (0 : Int) ≤ (k : Int) := by omega
      have hk1 : (k : Int) < (ps.length : Int) := by omega
      obtain ⟨b, off, u0, u1, u2, u3, u4, rfl, -, hbl, hat, d0, d1, d2, d3, d4⟩ := rows_at5 Pa.len HV.out hx
      replace d0 := (hb.cell (p := ⟨b, off + k * 5, none⟩) hbl).trans d0
      replace d1 := (hb.cell (p := ⟨b, off + k * 5 + 1, none⟩) hbl).trans d1
      replace d2 := (hb.cell (p := ⟨b, off + k * 5 + 2, none⟩) hbl).trans d2
      replace d3 := (hb.cell (p := ⟨b, off + k * 5 + 3, none⟩) hbl).trans d3
      replace d4 := (hb.cell (p := ⟨b, off + k * 5 + 4, none⟩) hbl).trans d4
      have HN := Lib.hid (And.intro hx hst)
      have hpx := HPB.out x (List.mem_of_getElem? hx)
      obtain ⟨pn, ty⟩ := x
      obtain ⟨v0, v1, v2, v3, v4, v5, v6, v7, e3, hpn, hty⟩ := Pa.open_ hat
      simp only [List.cons.injEq, and_true] at e3
      obtain ⟨rfl, rfl, rfl, rfl, rfl⟩ := e3
      simp only at hpn hty hpx
      have HT := Lib.hid (hty.below hb)
      have HO := Lib.hid hown
      have HNX := Lib.hid (show (ps.take (k + 1)).map Pa.name = (ps.take k).map Pa.name ++ [pn] by rw [List.take_add_one, hx]; simp)
      clear hx hst hat hty hown
      go_wp2_with fail
      refine (nameOk_i pn hpn _).mono ?_
      rintro e w3 ⟨rfl, hb3⟩
      obtain ⟨Bx3, bP⟩ := box1 (cA := [_, _, _, _, _]) hb3
      have B3 := hb.trans (Bx3.mono hb.size)
      clear hb3 d0 d1 d2 d3 d4
      have c := bP.cell
      cases h3 : nameOk pn
      · have HB := Lib.hid (show pasOk ps = false by unfold pasOk; rw [any_bad (p := fun p => !paOk p) HN.out.1 (by simp [paOk, h3])]; simp)
        clear h3
        go_wp2
        go_ret
        exact ⟨ret_eq (by rw [HB.out]; rfl), B3⟩
      have E3 := Lib.hid h3
      clear h3
      go_wp2_with fail
      refine (typeOk_i ty _ _ (HT.out.below Bx3) hpx).mono ?_
      rintro e w4 ⟨rfl, hb4⟩
      have Bx4 := Bx3.trans (hb4.mono Bx3.size)
      have B4 := hb.trans (Bx4.mono hb.size)
      replace bP := bP.call hb4
      clear c hb4
      have c := bP.cell
      cases h4 : tyOk ty
      · have HB := Lib.hid (show pasOk ps = false by unfold pasOk; rw [any_bad (p := fun p => !paOk p) HN.out.1 (by simp [paOk, h4])]; simp)
        clear h4
        go_wp2
        go_ret
        exact ⟨ret_eq (by rw [HB.out]; rfl), B4⟩
      have E4 := Lib.hid h4
      clear h4
      go_wp2_with fail
      refine (isUnit_c ty _ _ (HT.out.below Bx4)).mono ?_
      rintro e w5 ⟨rfl, hb5⟩
      have Bx5 := Bx4.trans (hb5.mono Bx4.size)
      have B5 := hb.trans (Bx5.mono hb.size)
      replace bP := bP.call hb5
      clear c hb5
      have c := bP.cell
      cases h5 : isU ty
      case true =>
        have HB := Lib.hid (show pasOk ps = false by unfold pasOk; rw [any_bad (p := fun p => !paOk p) HN.out.1 (by simp [paOk, h5])]; simp)
        clear h5
        go_wp2
        go_ret
        exact ⟨ret_eq (by rw [HB.out]; rfl), B5⟩
      have HG := Lib.hid (HN.out.2.next HN.out.1 (by simp only [paOk, h5, E3.out, E4.out]; rfl))
      have hown5 := own_call HO.out Bx5
      have hl2 : k + 1 ≤ 8796093022208 := by omega
      have hbs := B5.size
      have HBB := Lib.hid B5
      clear h5 hb Bx3 Bx4 Bx5 B3 B4 B5
      go_wp2_with (at_builtin; refine wpList_str hown5 pn (.tmp 28) (.tmp 31) hl2 hbs w5.heap.size rfl ?_; intro v' w' ho' hb')
      have hb6 := HBB.out.trans hb'
      obtain ⟨g', c', rfl, -⟩ := own_form ho' (by omega)
      clear hown5 hb'
      go_wp2
      go_roundw
      case rel => exact ⟨k + 1, by omega, by go_num, by rw [HNX.out]; exact ho', ⟨_, _, rfl⟩, HG.out, hb6⟩
      case measure => simp [intOf]; omega
    · obtain rfl : k = ps.length := by omega
      have HG := Lib.hid hst.end_
      rw [show ps.take ps.length = ps from List.take_of_length_le (by omega)] at hown
      have HO := Lib.hid hown
      clear hst hown
      by_cases h6 : (ps.length : Int) ≤ 6
      · have HD := Lib.hid (distinct_own (ps.map Pa.name) g cg w.heap.size wr (by simpa using HO.out) (by simp; omega))
        have E := Lib.hid (show pasOk ps = nodupS (ps.map Pa.name) by unfold pasOk; rw [HG.out, show decide (ps.length ≤ 6) = true from decide_eq_true (by omega)]; rfl)
        rw [show (ps.map Pa.name).length = ps.length from by simp] at HD
        go_wp2_with fail
        refine HD.out.mono ?_
        rintro e w2 ⟨rfl, hb2⟩
        have B2 := hb.trans (hb2.mono hb.size)
        go_wp2
        go_ret
        exact ⟨ret_eq (by rw [E.out]; rfl), B2⟩
      · have E := Lib.hid (show pasOk ps = false by unfold pasOk; rw [show decide (ps.length ≤ 6) = false from decide_eq_false (by omega)]; rfl)
        go_wp2
        go_ret
        exact ⟨ret_eq (by rw [E.out]; rfl), hb⟩


theorem Fn.bounds {x : Fn} (h : D.totals x.ds ≤ 1048576) : (∀ p ∈ x.params, p.ty.parts ≤ 2000000) ∧ x.params.length ≤ 1048576 ∧ x.res.parts ≤ 2000000 := by
  have e : D.totals x.ds = (rows Pa.ds 5 x.params).total + (D.totals x.res.ds + D.totals [.bool x.async]) := by
    unfold Fn.ds
    show _ + D.totals (x.res.ds ++ [.bool x.async]) = _
    rw [D.totals_append]
  rw [rows_total] at e
  refine ⟨fun p hp => ?_, by omega, ?_⟩
  · have h1 := totals_mem (f := Pa.ds) hp
    have h2 : D.totals p.ty.ds ≤ D.totals p.ds := by
      show _ ≤ _ + D.totals p.ty.ds
      omega
    have h3 := Ty.parts_total p.ty
    omega
  · have h3 := Ty.parts_total x.res
    omega

set_option maxHeartbeats 1000000 in
set_option maxRecDepth 20000 in
theorem funcOk_i (x : Fn) (cs : List Value) (w : World) (hcs : D.Ats w anyB x.ds cs) (ht : D.totals x.ds ≤ 1048576) :
    Calls Tryz.prog 82 #[.agg cs.toArray] w fun e w' => e = .returned (.bool (fnOk x)) ∧ Below w.heap.size w w' := by
  have HT := Lib.hid (Fn.bounds ht)
  obtain ⟨ps, res, async⟩ := x
  obtain ⟨B, d, k, n, A, m, c0, A', m', c1, rfl, hp, hr⟩ := Fn.open_ hcs
  simp only at hp hr
  have HV := Lib.hid hp
  have HR := Lib.hid hr
  have HE := Lib.hid (show fnOk ⟨ps, res, async⟩ = (pasOk ps && (tyOk res && !(res.has fun q => q == 21))) from rfl)
  clear hcs hp hr ht
  go_enter Tryz.func82, Tryz.ntmps82
  go_wp2_with fail
  refine (paramsOk_i ps _ _ _ (HV.out.below ((Below.refl _ _).alloc (Nat.le_refl _) _)) HT.out.1 HT.out.2.1).mono ?_
  rintro e w1 ⟨rfl, hb1⟩
  obtain ⟨B1, bA⟩ := box1 (cA := [_, _, _, _, _, _]) hb1
  clear hb1
  have c := bA.cell
  cases h1 : pasOk ps
  · have E1 := Lib.hid h1
    clear h1 c
    go_wp2
    go_ret
    exact ⟨ret_eq (by rw [HE.out, E1.out]; rfl), B1⟩
  have E1 := Lib.hid h1
  clear h1
  go_wp2_with fail
  refine (typeOk_i res _ _ (HR.out.below B1) HT.out.2.2).mono ?_
  rintro e w2 ⟨rfl, hb2⟩
  have B2 := B1.trans (hb2.mono B1.size)
  replace bA := bA.call hb2
  clear c hb2
  have c := bA.cell
  cases h2 : tyOk res
  · have E2 := Lib.hid h2
    clear h2 c
    go_wp2
    go_ret
    exact ⟨ret_eq (by rw [HE.out, E1.out, E2.out]; rfl), B2⟩
  have E2 := Lib.hid h2
  clear h2
  have lA := bA.lt
  go_wp2_with fail
  refine (hasKind_i [21] res _ _ _ _ (kinds1 _ 21 (by omega) _) (HR.out.below (B2.alloc B2.size _))).mono ?_
  rintro e w3 ⟨rfl, hb3⟩
  have B3 := (B2.alloc B2.size _).trans (hb3.mono (Nat.le_trans B2.size (by simp)))
  rw [mem21]
  clear c hb3
  cases h3 : res.has fun q => q == 21
  all_goals
    have E3 := Lib.hid h3
    clear h3
    go_wp2
    go_ret
    exact ⟨ret_eq (by rw [HE.out, E1.out, E2.out, E3.out]; rfl), B3⟩
end Go.Proofs.YtpfkhojhkjaafaaGreatDoor
namespace Go.Proofs.YtpfkhojhkjaafaaGreatDoor
open Go.RowKit

theorem bytes_ext {a b : ByteArray} (h : a.data.toList = b.data.toList) : a = b := ByteArray.ext (Array.ext' h)
theorem putB_mem (s a : ByteArray) (l : List ByteArray) : a ∈ putB s l ↔ a = s ∨ a ∈ l := by
  have h : ∀ L : List ByteArray, a ∈ L ↔ a.data.toList ∈ L.map (·.data.toList) := fun L =>
    ⟨fun h => List.mem_map.2 ⟨a, h, rfl⟩, fun h => by obtain ⟨x, hx, e⟩ := List.mem_map.1 h; rwa [← bytes_ext e]⟩
  rw [h (putB s l), putB_putT, putT_mem, h l]
  exact ⟨fun h => h.imp bytes_ext id, fun h => h.imp (fun e => by rw [e]) id⟩
/-- s is among the texts. -/
def memS (L : List ByteArray) (s : ByteArray) : Bool := L.any (fun x => x.toList == s.toList)
/-- Names one after the other grow. -/
def incTo (l : List ByteArray) (k : Nat) : Prop := ∀ j x y, j + 1 < k → l[j]? = some x → l[j + 1]? = some y → Op.bytesLess x.toList y.toList = true
def incB (l : List ByteArray) : Bool := (List.range (l.length - 1)).all (fun j => Op.bytesLess (l.getD j ByteArray.empty).toList (l.getD (j + 1) ByteArray.empty).toList)
theorem incB_iff (l : List ByteArray) : incB l = true ↔ incTo l l.length := by
  unfold incB incTo
  rw [List.all_eq_true]
  constructor
  · intro h j x y hj hx hy
    have := h j (List.mem_range.2 (by omega))
    rw [List.getD, hx, List.getD, hy] at this
    exact this
  · intro h j hj
    have hj := List.mem_range.1 hj
    have := h j l[j] l[j + 1] (by omega) (List.getElem?_eq_getElem (by omega)) (List.getElem?_eq_getElem (by omega))
    rw [List.getD, List.getElem?_eq_getElem (by omega), List.getD, List.getElem?_eq_getElem (by omega)]
    exact this
theorem incTo.next {l : List ByteArray} {k : Nat} {x y : ByteArray} (h : incTo l (k + 1)) (hx : l[k]? = some x) (hy : l[k + 1]? = some y) (hl : Op.bytesLess x.toList y.toList = true) : incTo l (k + 2) := by
  intro j a b hj ha hb
  by_cases e : j = k
  · subst e
    rw [hx] at ha
    rw [hy] at hb
    obtain rfl := Option.some.inj ha
    obtain rfl := Option.some.inj hb
    exact hl
  · exact h j a b (by omega) ha hb
theorem inc_bad {l : List ByteArray} {k : Nat} {x y : ByteArray} (hx : l[k]? = some x) (hy : l[k + 1]? = some y) (hl : Op.bytesLess x.toList y.toList = false) : incB l = false := by
  cases h : incB l
  · rfl
  · have := (incB_iff l).1 h k x y (List.getElem?_eq_some_iff.1 hy).1 hx hy
    rw [hl] at this
    cases this
theorem inc_end {l : List ByteArray} (h : incTo l l.length) : incB l = true := (incB_iff l).2 h
set_option maxHeartbeats 2000000 in
set_option maxRecDepth 20000 in
theorem increasing_i (l : List ByteArray) (A : Option Addr) (cap : Nat) (w : World) (hv : D.At w anyB (strs l) (.slice A l.length cap)) :
    Calls Tryz.prog 79 #[.slice A l.length cap] w fun e w' => e = .returned (.bool (incB l)) ∧ Below w.heap.size w w' := by
  obtain ⟨-, hn, hc⟩ := rows_bound hv
  unfold maxLen at hc
  have HV := Lib.hid hv
  clear hv
  go_enter Tryz.func79, Tryz.ntmps79
  go_wp2
  go_loopw [3] (fun i wr => ∃ q : Nat, i = .int .i64 ((q : Int) + 1) ∧ (q + 1 ≤ l.length ∨ q = 0) ∧ incTo l (q + 1) ∧ Below w.heap.size w wr) (fun i _ => l.length + 1 - (intOf i).toNat)
  case atStart => exact ⟨0, rfl, .inr rfl, fun j x y h => absurd h (by omega), Below.refl _ _⟩
  case round =>
    obtain ⟨q, rfl, hq, hin, hb⟩ := hrel
    have HI := Lib.hid hin
    clear hin
    by_cases hlt : q + 1 < l.length
    · obtain ⟨x, hx⟩ : ∃ x, l[q]? = some x := ⟨l[q], List.getElem?_eq_getElem (by omega)⟩
      obtain ⟨y, hy⟩ : ∃ y, l[q + 1]? = some y := ⟨l[q + 1], List.getElem?_eq_getElem (by omega)⟩
      obtain ⟨b, off, u0, e, -, hbl, hat, c0⟩ := rows_at1 strD_length (HV.out.below hb) hx
      subst e
      obtain ⟨rfl, -⟩ := str_open hat
      obtain ⟨b', off', u1, e, -, hbl', hat', c1⟩ := rows_at1 strD_length (HV.out.below hb) hy
      simp only [Option.some.injEq, Addr.mk.injEq] at e
      obtain ⟨rfl, rfl, -⟩ := e
      obtain ⟨rfl, -⟩ := str_open hat'
      have HX := Lib.hid (And.intro hx hy)
      have i1 : (q : Int) + 1 < (l.length : Int) := by omega
      have i2 : (0 : Int) ≤ (q : Int) := by omega
      have i3 : (q : Int) < (l.length : Int) := by omega
      have i4 : (0 : Int) ≤ (q : Int) + 1 := by omega
      have i5 : ((q : Int) + 1).toNat = q + 1 := by omega
      have i6 : (q : Int) + 1 - 1 = (q : Int) := by omega
      have c1' : wr.cell? ⟨b, off + (q + 1), none⟩ = some (.string y) := c1
      have d0 := cell_regrown c0
      have d1 := cell_regrown c1'
      clear hx hy hat hat' c1
      cases hl : Op.bytesLess x.toList y.toList
      all_goals
        have HL := Lib.hid hl
        go_wp2_with fail
        refine wp_region_quiet_below (by kernel_rfl) (by kernel_rfl) ?_
        repeat (first | go_big_quiet_step (fail) | quiet_step (fail))
        refine wpQuiet_nil ?_
        intro w2 hw2
        have hb2 := hb.trans ((below_of_regrown hw2).mono hb.size)
        clear hw2 d0 d1 c0 c1'
      · have HB := Lib.hid (inc_bad HX.out.1 HX.out.2 HL.out)
        go_wp2
        exact bodyPost_ret (v := .bool false) (by simp [results, Tryz.results79, go_sem]) rfl ⟨by rw [HB.out], hb2⟩
      · have HB := Lib.hid (HI.out.next HX.out.1 HX.out.2 HL.out)
        go_wp2
        go_roundw
        case rel => exact ⟨q + 1, by go_num, .inl (by omega), HB.out, hb2⟩
        case measure => simp [intOf]; omega
    · have HB := Lib.hid (inc_end (l := l) (fun j x y hj => HI.out j x y (by omega)))
      have i1 : ¬ (q : Int) + 1 < (l.length : Int) := by omega
      go_wp2
      exact bodyPost_ret (v := .bool true) (by simp [results, Tryz.results79, go_sem]) rfl ⟨by rw [HB.out], hb⟩
set_option maxHeartbeats 2000000 in
set_option maxRecDepth 20000 in
theorem memS_idx (L : List ByteArray) (s : ByteArray) : memS L s = decide (0 ≤ idxI (idxS L s)) := by
  unfold memS
  cases h : idxS L s with
  | none =>
    unfold idxS at h
    rw [List.findIdx?_eq_none_iff] at h
    have e : decide (0 ≤ idxI none) = false := rfl
    rw [e]
    exact Bool.eq_false_iff.2 (fun c => by obtain ⟨x, hx, hs⟩ := List.any_eq_true.1 c; rw [h x hx] at hs; cases hs)
  | some k =>
    have e : decide (0 ≤ idxI (some k)) = true := decide_eq_true (by show (0 : Int) ≤ (k : Int); omega)
    rw [e]
    unfold idxS at h
    rw [List.findIdx?_eq_some_iff_getElem] at h
    obtain ⟨hk, hs, -⟩ := h
    exact List.any_eq_true.2 ⟨L[k], List.getElem_mem hk, hs⟩
theorem contains_i (L : List ByteArray) (s : ByteArray) (A : Option Addr) (cap : Nat) (w : World) (hv : D.At w anyB (strs L) (.slice A L.length cap)) :
    Calls Tryz.prog 85 #[.slice A L.length cap, .string s] w fun e w' => e = .returned (.bool (memS L s)) ∧ w = w' := by
  have HI := Lib.hid (index_i L s A cap w hv)
  have HM := Lib.hid (memS_idx L s)
  obtain ⟨r, hr⟩ : ∃ r, idxI (idxS L s) = r := ⟨_, rfl⟩
  rw [hr] at HI HM
  clear hv hr
  go_enter Tryz.func85, Tryz.ntmps85
  go_wp2_with fail
  refine HI.out.mono ?_
  rintro e w1 ⟨rfl, rfl⟩
  go_wp2
  exact bodyPost_ret (v := .bool (decide (0 ≤ r))) (by simp [results, Tryz.results85, go_sem]) rfl ⟨by rw [HM.out], rfl⟩
end Go.Proofs.YtpfkhojhkjaafaaGreatDoor
