/- A function's type is valid: by the reference. -/
import Derived.Test.YtmhnendajefakaaTyOkS
import Derived.Test.YtmhnendajefakaaTyOkI
import Derived.Deep.QuietTactic
import Derived.BigQuiet
namespace Go.Proofs.Ytmhnendajefakaa
open Go.RowKit

def paOk (p : Pa) : Bool := nameOk p.name && (tyOk p.ty && !isU p.ty)
def resOk (x : Ty) : Bool := tyOk x && !(x.has fun q => q == 21)
def pasOk (l : List Pa) : Bool := decide (l.length ≤ 6) && (!(l.any fun p => !paOk p) && nodupS (l.map Pa.name))
def fnOk (f : Fn) : Bool := pasOk f.params && resOk f.res

set_option maxHeartbeats 4000000 in
set_option maxRecDepth 20000 in
theorem l03Func_s (x : Fn) (cs : List Value) (w : World) (hcs : D.Ats w anyB x.ds cs) :
    Calls Try.prog 66 #[.agg cs.toArray] w fun e w' => e = .returned (.bool (fnOk x)) ∧ Below w.heap.size w w' := by
  obtain ⟨ps, res, async⟩ := x
  obtain ⟨B, d, k, n, A, m, c0, A', m', c1, rfl, hp, hr⟩ := Fn.open_ hcs
  simp only at hp hr
  obtain ⟨-, hn, hc⟩ := rows_bound hp
  unfold maxLen at hc
  have HV := Lib.hid hp
  have HR := Lib.hid hr
  have HE := Lib.hid (show fnOk ⟨ps, res, async⟩ = (pasOk ps && resOk res) from rfl)
  clear hcs hp hr
  by_cases hlen : (6 : Int) < (ps.length : Int)
  · have E := Lib.hid (show pasOk ps = false by unfold pasOk; rw [show decide (ps.length ≤ 6) = false from decide_eq_false (by omega)]; rfl)
    go_enter Try.func66, Try.ntmps66
    go_wp2
    go_ret
    exact ⟨ret_eq (by rw [HE.out, E.out]; rfl), by repeat (first | exact Below.refl _ _ | refine Below.alloc ?_ (by first | omega | (simp <;> omega)) _)⟩
  · have E := Lib.hid (show pasOk ps = (!(ps.any fun p => !paOk p) && nodupS (ps.map Pa.name)) by unfold pasOk; rw [show decide (ps.length ≤ 6) = true from decide_eq_true (by omega)]; rfl)
    go_enter Try.func66, Try.ntmps66
    go_wp2_with fail
    refine (l03Ok_s res _ _ (HR.out.below ((Below.refl _ _).alloc (Nat.le_refl _) _))).mono ?_
    rintro e w1 ⟨rfl, hb1⟩
    obtain ⟨B1, bA⟩ := box1 (cA := [_, _, _, _, _, _]) hb1
    clear hb1
    have c := bA.cell
    cases h1 : tyOk res
    · have E1 := Lib.hid (show resOk res = false by unfold resOk; rw [h1]; rfl)
      clear c h1
      go_wp2
      go_ret
      exact ⟨ret_eq (by rw [HE.out, E1.out, Bool.and_false]; rfl), B1⟩
    · have E1 := Lib.hid h1
      clear h1
      go_wp2_with fail
      refine (l03Has_s 21 21 res _ _ (HR.out.below B1)).mono ?_
      rintro e w2 ⟨rfl, hb2⟩
      rw [hass21]
      have B2 := B1.trans (hb2.mono B1.size)
      replace bA := bA.call hb2
      clear c hb2
      cases h2 : res.has fun q => q == 21
      case true =>
        have E2 := Lib.hid (show resOk res = false by unfold resOk; rw [E1.out, h2]; rfl)
        clear h2
        go_wp2
        go_ret
        exact ⟨ret_eq (by rw [HE.out, E2.out, Bool.and_false]; rfl), B2⟩
      have E2 := Lib.hid (show resOk res = true by unfold resOk; rw [E1.out, h2]; rfl)
      clear h2
      have c := bA.cell
      go_wp2
      go_loopw [3, 4, 5] (fun i _ _ wr => ∃ q : Nat, q ≤ ps.length ∧ i = .int .i64 q ∧ NoneTo (fun p => !paOk p) ps q ∧ nodupS ((ps.map Pa.name).take q) = true ∧ Below w2.heap.size w2 wr) (fun i _ _ _ => ps.length - (intOf i).toNat)
      case atStart => exact ⟨0, Nat.zero_le _, rfl, NoneTo.zero _ _, by simp [nodupS], Below.refl _ _⟩
      case round =>
        obtain ⟨q, hq, rfl, hst, hnd, hb⟩ := hrel
        have Bw := B2.trans (hb.mono B2.size)
        have fA := bA.call hb
        clear c
        have c := fA.cell
        by_cases hlt : q < ps.length
        · obtain ⟨x, hx⟩ : ∃ x, ps[q]? = some x := ⟨ps[q], List.getElem?_eq_getElem hlt⟩
          have hk0 : (0 : Int) ≤ (q : Int) := by omega
          have hk1 : (q : Int) < (ps.length : Int) := by omega
          obtain ⟨b, off, u0, u1, u2, u3, u4, rfl, -, hbl, hat, d0, d1, d2, d3, d4⟩ := rows_at5 Pa.len HV.out hx
          replace d0 := (Bw.cell (p := ⟨b, off + q * 5, none⟩) hbl).trans d0
          replace d1 := (Bw.cell (p := ⟨b, off + q * 5 + 1, none⟩) hbl).trans d1
          replace d2 := (Bw.cell (p := ⟨b, off + q * 5 + 2, none⟩) hbl).trans d2
          replace d3 := (Bw.cell (p := ⟨b, off + q * 5 + 3, none⟩) hbl).trans d3
          replace d4 := (Bw.cell (p := ⟨b, off + q * 5 + 4, none⟩) hbl).trans d4
          have HN := Lib.hid (And.intro hx (And.intro hst hnd))
          obtain ⟨pn, ⟨k', n', l', kids'⟩⟩ := x
          obtain ⟨v0, v1, v2, v3, v4, v5, v6, v7, e3, hpn, hty⟩ := Pa.open_ hat
          simp only [List.cons.injEq, and_true] at e3
          obtain ⟨rfl, rfl, rfl, rfl, rfl⟩ := e3
          obtain ⟨z0, z1, z2, z3, e4, -⟩ := Ty.open_ hty
          simp only [List.cons.injEq, and_true, Value.int.injEq, true_and, Value.string.injEq, Value.slice.injEq] at e4
          obtain ⟨rfl, rfl, ⟨rfl, rfl, rfl⟩, ⟨rfl, rfl, rfl⟩⟩ := e4
          have HT := Lib.hid (hty.below Bw)
          clear hx hst hnd hat hty
          go_wp2_with fail
          refine (l03Name_s pn hpn _).mono ?_
          rintro e w3 ⟨rfl, rfl⟩
          cases h3 : nameOk pn
          · have HB := Lib.hid (any_bad (p := fun p => !paOk p) HN.out.1 (by simp [paOk, h3]))
            clear h3
            go_wp2
            go_ret
            exact ⟨ret_eq (by rw [HE.out, E.out, HB.out]; rfl), by repeat (first | exact Bw | refine Below.alloc ?_ (by have := Bw.size; first | omega | (simp <;> omega)) _)⟩
          · have E3 := Lib.hid h3
            clear h3
            go_wp2_with fail
            refine (l03Ok_s (.mk v0 v1 l' kids') _ _ (HT.out.below ((Below.refl _ _).alloc (Nat.le_refl _) _))).mono ?_
            rintro e w4 ⟨rfl, hb4⟩
            obtain ⟨Bx4, bP⟩ := box1 (cA := [_, _, _, _, _]) hb4
            have B4 := Bw.trans (Bx4.mono Bw.size)
            have hb4' := hb.trans (Bx4.mono hb.size)
            have fA4 := fA.call Bx4
            clear c hb4 d0 d1 d2 d3 d4 HT
            have cP := bP.cell
            cases h4 : tyOk (.mk v0 v1 l' kids')
            · have HB := Lib.hid (any_bad (p := fun p => !paOk p) HN.out.1 (by simp [paOk, h4]))
              clear h4
              go_wp2
              go_ret
              exact ⟨ret_eq (by rw [HE.out, E.out, HB.out]; rfl), B4⟩
            · have E4 := Lib.hid h4
              clear h4
              cases h5 : (v0 == 1)
              case true =>
                have HB := Lib.hid (any_bad (p := fun p => !paOk p) HN.out.1 (by simp only [paOk, show isU (.mk v0 v1 l' kids') = true from h5]; simp))
                go_wp2
                go_ret
                exact ⟨ret_eq (by rw [HE.out, E.out, HB.out]; rfl), B4⟩
              have HG := Lib.hid (HN.out.2.1.next HN.out.1 (by simp only [paOk, show isU (.mk v0 v1 l' kids') = false from h5, E3.out, E4.out]; rfl))
              have HM : ((ps.map Pa.name))[q]? = some pn := by rw [List.getElem?_map, HN.out.1]; rfl
              have HMM := Lib.hid HM
              clear HM
              go_wp2
              go_loopw [5] (fun j wr2 => ∃ k : Nat, k ≤ q ∧ j = .int .i64 k ∧ NoneTo (fun y => sameS y pn) (ps.map Pa.name) k ∧ Below w4.heap.size w4 wr2) (fun i _ => q - (intOf i).toNat)
              case atStart => exact ⟨0, Nat.zero_le _, rfl, NoneTo.zero _ _, Below.refl _ _⟩
              case round =>
                obtain ⟨j, hj, rfl, hst2, hb5⟩ := hrel
                clear cP
                have B5 := B4.trans (hb5.mono B4.size)
                have hb5' := hb4'.trans (hb5.mono hb4'.size)
                by_cases hltj : j < q
                · have hlj : j < ps.length := by omega
                  obtain ⟨y, hy⟩ : ∃ y, ps[j]? = some y := ⟨ps[j], List.getElem?_eq_getElem hlj⟩
                  have hj0 : (0 : Int) ≤ (j : Int) := by omega
                  have hj1 : (j : Int) < (ps.length : Int) := by omega
                  obtain ⟨b', off', y0, y1, y2, y3, y4, hA, -, hbl', hat', g0, -⟩ := rows_at5 Pa.len HV.out hy
                  obtain ⟨rfl, rfl⟩ : b = b' ∧ off = off' := by simpa using hA
                  obtain ⟨x0, x1, x2, x3, x4, x5, x6, x7, e3, -, -⟩ := Pa.open_ hat'
                  simp only [List.cons.injEq, and_true] at e3
                  obtain ⟨rfl, -⟩ := e3
                  replace g0 := cell_regrown ((B5.cell (p := ⟨b, off + j * 5, none⟩) hbl).trans g0)
                  have cA := ((fA4.call hb5).cell)
                  have cB := ((bP.call hb5).cell)
                  have f0 := cell_regrown (show wr.cell? ⟨w.heap.size, 0, none⟩ = some (.slice (some ⟨b, off, none⟩) ps.length d) from cA 0)
                  have HY : ((ps.map Pa.name))[j]? = some y.name := by rw [List.getElem?_map, hy]; rfl
                  have HN2 := Lib.hid (And.intro HY hst2)
                  clear HY hy hst2 hA hat'
                  have fP := cell_regrown (show World.cell? _ _ = some (.string pn) from cB 0)
                  cases hs : (y.name.toList == pn.toList)
                  · have HC := Lib.hid (HN2.out.2.next HN2.out.1 (show sameS y.name pn = false from hs))
                    go_wp2_with fail
                    refine wp_region_quiet_below (by kernel_rfl) (by kernel_rfl) ?_
                    repeat (first | go_big_quiet_step (fail) | quiet_step (fail))
                    refine wpQuiet_nil ?_
                    intro w6 hw6
                    have hb6 := hb5.trans ((below_of_regrown hw6).mono hb5.size)
                    clear hw6 g0 f0 fP cA cB
                    go_wp2
                    go_roundw
                    case rel => exact ⟨j + 1, by omega, by go_num, HC.out, hb6⟩
                    case measure => simp [intOf]; omega
                  · have HC := Lib.hid (nodupS_take (l := ps.map Pa.name) (q := q + 1) (by
                      rw [nodupS_next HMM.out, any_bad (p := fun y => sameS y pn) (k := j) (by rw [List.getElem?_take_of_lt hltj]; exact HN2.out.1) hs]; simp))
                    go_wp2_with fail
                    refine wp_region_quiet_below (by kernel_rfl) (by kernel_rfl) ?_
                    repeat (first | go_big_quiet_step (fail) | quiet_step (fail))
                    refine wpQuiet_nil ?_
                    intro w6 hw6
                    have B6 := B5.trans ((below_of_regrown hw6).mono B5.size)
                    clear hw6 g0 f0 fP cA cB
                    go_wp2
                    go_ret
                    exact ⟨ret_eq (by rw [HE.out, E.out, HC.out, Bool.and_false]; rfl), B6⟩
                · obtain rfl : j = q := by omega
                  have HC := Lib.hid (show nodupS ((ps.map Pa.name).take (j + 1)) = true by rw [nodupS_next HMM.out, HN.out.2.2]; unfold NoneTo at hst2; rw [hst2]; rfl)
                  clear hst2
                  go_wp2
                  go_roundw
                  case rel => exact ⟨j + 1, by omega, by go_num, HG.out, HC.out, hb5'⟩
                  case measure => simp [intOf]; omega
        · obtain rfl : q = ps.length := by omega
          rw [show (ps.map Pa.name).take ps.length = ps.map Pa.name from List.take_of_length_le (by simp)] at hnd
          have HB := Lib.hid (And.intro hst.end_ hnd)
          clear hst hnd
          go_wp2
          go_ret
          exact ⟨ret_eq (by rw [HE.out, E.out, HB.out.1, HB.out.2, E2.out]; rfl), Bw⟩
end Go.Proofs.Ytmhnendajefakaa
