/- Interfaces, the same or not: by the reference and by the program. -/
import Derived.Test.YtokppmhihghapaaSameFn
namespace Go.Proofs.Ytokppmhihghapaa
open Go.RowKit

def fuEq (x y : Fu) : Bool := (x.name.toList == y.name.toList) && fnEq x.ty y.ty
def faEq (x y : Fa) : Bool := (x.pkg.toList == y.pkg.toList) && ((x.name.toList == y.name.toList) && ((x.ver.toList == y.ver.toList) && (pairs sameS x.owns y.owns && pairs fuEq x.funcs y.funcs)))
theorem fuEq_eq (x y : Fu) : fuEq x y = ((x.name.toList == y.name.toList) && fnEq x.ty y.ty) := rfl
theorem faEq_eq (x y : Fa) : faEq x y = ((x.pkg.toList == y.pkg.toList) && ((x.name.toList == y.name.toList) && ((x.ver.toList == y.ver.toList) && (pairs sameS x.owns y.owns && pairs fuEq x.funcs y.funcs)))) := rfl

set_option maxHeartbeats 1000000 in
set_option maxRecDepth 20000 in
theorem sameFace_s (x y : Fa) (cs cs' : List Value) (w : World) (hcs : D.Ats w anyB x.ds cs) (hcs' : D.Ats w anyB y.ds cs') :
    Calls Try.prog 48 #[.agg cs.toArray, .agg cs'.toArray] w fun e w' => e = .returned (.bool (faEq x y)) ∧ Below w.heap.size w w' := by
  have HE := Lib.hid (faEq_eq x y)
  obtain ⟨AA, Ac, AA', Ac', rfl, zA0, zA1, zA2, sA3, sA4⟩ := Fa.open_ hcs
  obtain ⟨BA, Bc, BA', Bc', rfl, zB0, zB1, zB2, sB3, sB4⟩ := Fa.open_ hcs'
  have H3 := Lib.hid (And.intro sA3 sB3)
  have H4 := Lib.hid (And.intro sA4 sB4)
  obtain ⟨-, hn, hc⟩ := rows_bound sA4
  obtain ⟨-, hn', hc'⟩ := rows_bound sB4
  unfold maxLen at hc hc'
  clear hcs hcs' zA0 zB0 zA1 zB1 zA2 zB2 sA3 sB3 sA4 sB4
  cases h0 : (x.pkg.toList == y.pkg.toList)
  · have g0 : (x.pkg.toList != y.pkg.toList) = true := by simp [bne, h0]
    have E0 := Lib.hid h0
    go_enter Try.func48, Try.ntmps48
    go_wp2
    go_ret
    exact ⟨ret_eq (by rw [HE.out]; simp [E0.out]), (by repeat (first | exact Below.refl _ _ | refine Below.alloc ?_ (by first | omega | (simp <;> omega)) _))⟩
  · have g0 : (x.pkg.toList != y.pkg.toList) = false := by simp [bne, h0]
    have E0 := Lib.hid h0
    cases h1 : (x.name.toList == y.name.toList)
    · have g1 : (x.name.toList != y.name.toList) = true := by simp [bne, h1]
      have E1 := Lib.hid h1
      go_enter Try.func48, Try.ntmps48
      go_wp2
      go_ret
      exact ⟨ret_eq (by rw [HE.out]; simp [E1.out]), (by repeat (first | exact Below.refl _ _ | refine Below.alloc ?_ (by first | omega | (simp <;> omega)) _))⟩
    · have g1 : (x.name.toList != y.name.toList) = false := by simp [bne, h1]
      have E1 := Lib.hid h1
      cases h2 : (x.ver.toList == y.ver.toList)
      · have g2 : (x.ver.toList != y.ver.toList) = true := by simp [bne, h2]
        have E2 := Lib.hid h2
        go_enter Try.func48, Try.ntmps48
        go_wp2
        go_ret
        exact ⟨ret_eq (by rw [HE.out]; simp [E2.out]), (by repeat (first | exact Below.refl _ _ | refine Below.alloc ?_ (by first | omega | (simp <;> omega)) _))⟩
      · have g2 : (x.ver.toList != y.ver.toList) = false := by simp [bne, h2]
        have E2 := Lib.hid h2
        go_enter Try.func48, Try.ntmps48
        go_wp2_with fail
        refine (l03Texts_s x.owns y.owns _ _ _ (H3.out.1.below (by repeat (first | exact Below.refl _ _ | refine Below.alloc ?_ (by first | omega | (simp <;> omega)) _))) (H3.out.2.below (by repeat (first | exact Below.refl _ _ | refine Below.alloc ?_ (by first | omega | (simp <;> omega)) _)))).mono ?_
        rintro e w1 ⟨rfl, hb1⟩
        obtain ⟨B1, bA, bB⟩ := box2 (cA := [_, _, _, _, _]) (cB := [_, _, _, _, _]) hb1
        clear hb1
        have c := bA.cell
        have d := bB.cell
        cases h3 : pairs sameS x.owns y.owns
        · have E3 := Lib.hid h3
          clear h3
          go_wp2
          go_ret
          exact ⟨ret_eq (by rw [HE.out]; simp [E3.out]), B1⟩
        · have E3 := Lib.hid h3
          clear h3
          by_cases hlm : x.funcs.length = y.funcs.length
          · have g4 : ((x.funcs.length : Int) != (y.funcs.length : Int)) = false := by simp [hlm]
            have HLM := Lib.hid hlm
            have hle : y.funcs.length ≤ x.funcs.length := by omega
            clear hlm
            go_wp2
            go_loopw [5] (fun i wr => ∃ q : Nat, q ≤ x.funcs.length ∧ i = .int .i64 q ∧ PairsTo fuEq x.funcs y.funcs q ∧ Below w1.heap.size w1 wr) (fun i _ => x.funcs.length - (intOf i).toNat)
            case atStart => exact ⟨0, Nat.zero_le _, rfl, PairsTo.zero _ _ _, Below.refl _ _⟩
            case round =>
              obtain ⟨q, hq, rfl, hst, hb⟩ := hrel
              clear c d
              have fA := bA.call hb
              have fB := bB.call hb
              have c := fA.cell
              have d := fB.cell
              by_cases hlt : q < x.funcs.length
              · obtain ⟨u, hx⟩ : ∃ u, x.funcs[q]? = some u := ⟨x.funcs[q], List.getElem?_eq_getElem hlt⟩
                obtain ⟨v, hy⟩ : ∃ v, y.funcs[q]? = some v := ⟨y.funcs[q]'(by have := HLM.out; omega), List.getElem?_eq_getElem (by have := HLM.out; omega)⟩
                have hltm : (q : Int) < (y.funcs.length : Int) := by have := HLM.out; omega
                have hk0 : (0 : Int) ≤ (q : Int) := by omega
                have hk1 : (q : Int) < (x.funcs.length : Int) := by omega
                obtain ⟨b, off, u0, u1, u2, u3, u4, u5, u6, rfl, -, hbl, hat, c0, c1, c2, c3, c4, c5, c6⟩ := rows_at7 Fu.len H4.out.1 hx
                obtain ⟨b', off', v0, v1, v2, v3, v4, v5, v6, rfl, -, hbl', hat', d0, d1, d2, d3, d4, d5, d6⟩ := rows_at7 Fu.len H4.out.2 hy
                have Bw := B1.trans (hb.mono B1.size)
                obtain ⟨P0A, P0m, P0c, P1, P2, P3A, P3m, P3c, P4A, P4m, P4c, P5, eu, -, hat1⟩ := Fu.open_ hat
                obtain ⟨Q0A, Q0m, Q0c, Q1, Q2, Q3A, Q3m, Q3c, Q4A, Q4m, Q4c, Q5, ev, -, hat1'⟩ := Fu.open_ hat'
                simp only [List.cons.injEq, and_true] at eu ev
                obtain ⟨rfl, rfl, rfl, rfl, rfl, rfl, rfl⟩ := eu
                obtain ⟨rfl, rfl, rfl, rfl, rfl, rfl, rfl⟩ := ev
                replace c0 := cell_regrown ((Bw.cell (p := ⟨b, off + q * 7, none⟩) hbl).trans c0)
                replace d0 := cell_regrown ((Bw.cell (p := ⟨b', off' + q * 7, none⟩) hbl').trans d0)
                replace c1 := cell_regrown ((Bw.cell (p := ⟨b, off + q * 7 + 1, none⟩) hbl).trans c1)
                replace d1 := cell_regrown ((Bw.cell (p := ⟨b', off' + q * 7 + 1, none⟩) hbl').trans d1)
                replace c2 := cell_regrown ((Bw.cell (p := ⟨b, off + q * 7 + 2, none⟩) hbl).trans c2)
                replace d2 := cell_regrown ((Bw.cell (p := ⟨b', off' + q * 7 + 2, none⟩) hbl').trans d2)
                replace c3 := cell_regrown ((Bw.cell (p := ⟨b, off + q * 7 + 3, none⟩) hbl).trans c3)
                replace d3 := cell_regrown ((Bw.cell (p := ⟨b', off' + q * 7 + 3, none⟩) hbl').trans d3)
                replace c4 := cell_regrown ((Bw.cell (p := ⟨b, off + q * 7 + 4, none⟩) hbl).trans c4)
                replace d4 := cell_regrown ((Bw.cell (p := ⟨b', off' + q * 7 + 4, none⟩) hbl').trans d4)
                replace c5 := cell_regrown ((Bw.cell (p := ⟨b, off + q * 7 + 5, none⟩) hbl).trans c5)
                replace d5 := cell_regrown ((Bw.cell (p := ⟨b', off' + q * 7 + 5, none⟩) hbl').trans d5)
                replace c6 := cell_regrown ((Bw.cell (p := ⟨b, off + q * 7 + 6, none⟩) hbl).trans c6)
                replace d6 := cell_regrown ((Bw.cell (p := ⟨b', off' + q * 7 + 6, none⟩) hbl').trans d6)
                have f1 := cell_regrown (show wr.cell? ⟨w.heap.size, 4, none⟩ = some (.slice (some ⟨b, off, none⟩) x.funcs.length Ac') from c 4)
                have f2 := cell_regrown (show wr.cell? ⟨w.heap.size + 1, 4, none⟩ = some (.slice (some ⟨b', off', none⟩) y.funcs.length Bc') from d 4)
                have HN := Lib.hid (And.intro hx (And.intro hy hst))
                have HU := Lib.hid (And.intro hat1 hat1')
                clear hx hy hst hat hat' hat1 hat1'
                cases hs : (u.name.toList == v.name.toList)
                · have hne : (u.name.toList != v.name.toList) = true := by simp [bne, hs]
                  have HS := Lib.hid hs
                  go_wp2_with fail
                  refine wp_region_quiet_below (by kernel_rfl) (by kernel_rfl) ?_
                  repeat (first | go_big_quiet_step (fail) | quiet_step (fail))
                  refine wpQuiet_nil ?_
                  intro w8 hw8
                  have hb8 := hb.trans ((below_of_regrown hw8).mono hb.size)
                  have Bw8 := Bw.trans ((below_of_regrown hw8).mono Bw.size)
                  clear hs hne hw8 c0 c1 c2 c3 c4 c5 c6  d0 d1 d2 d3 d4 d5 d6 f1 f2 c d
                  have HB := Lib.hid (pairs_bad (q := fuEq) HN.out.1 HN.out.2.1 (by rw [fuEq_eq, HS.out]; rfl))
                  go_wp2
                  go_ret
                  exact ⟨ret_eq (by rw [HE.out]; simp [HB.out]), Bw8⟩
                · have hne : (u.name.toList != v.name.toList) = false := by simp [bne, hs]
                  have HS := Lib.hid hs
                  go_wp2_with fail
                  refine wp_region_quiet_below (by kernel_rfl) (by kernel_rfl) ?_
                  repeat (first | go_big_quiet_step (exact Calls.regrown_of (sameFunc_s u.ty v.ty _ _ _ ((HU.out.1.below Bw).below (below_regrown _ _ _)) ((HU.out.2.below Bw).below (below_regrown _ _ _)))) | quiet_step (exact Calls.regrown_of (sameFunc_s u.ty v.ty _ _ _ ((HU.out.1.below Bw).below (below_regrown _ _ _)) ((HU.out.2.below Bw).below (below_regrown _ _ _)))))
                  refine wpQuiet_nil ?_
                  intro w8 hw8
                  have hb8 := hb.trans ((below_of_regrown hw8).mono hb.size)
                  have Bw8 := Bw.trans ((below_of_regrown hw8).mono Bw.size)
                  clear hs hne hw8 c0 c1 c2 c3 c4 c5 c6  d0 d1 d2 d3 d4 d5 d6 f1 f2 c d
                  cases h9 : fnEq u.ty v.ty
                  · have HB := Lib.hid (pairs_bad (q := fuEq) HN.out.1 HN.out.2.1 (by rw [fuEq_eq, HS.out, h9]; rfl))
                    clear h9
                    go_wp2
                    go_ret
                    exact ⟨ret_eq (by rw [HE.out]; simp [HB.out]), Bw8⟩
                  · have HB := Lib.hid (HN.out.2.2.next HN.out.1 HN.out.2.1 (show fuEq u v = true by rw [fuEq_eq, HS.out, h9]; rfl))
                    clear h9
                    go_wp2
                    go_roundw
                    case rel => exact ⟨q + 1, by omega, by go_num, HB.out, hb8⟩
                    case measure => simp [intOf]; omega
              · obtain rfl : q = x.funcs.length := by omega
                have HB := Lib.hid (PairsTo.end_ HLM.out hst)
                go_wp2
                go_ret
                exact ⟨ret_eq (by rw [HE.out]; simp [E0.out, E1.out, E2.out, E3.out, HB.out]), B1.trans (hb.mono B1.size)⟩
          · have g4 : ((x.funcs.length : Int) != (y.funcs.length : Int)) = true := by rw [bne_iff_ne]; omega
            have E4 := Lib.hid (pairs_len (q := fuEq) hlm)
            go_wp2
            go_ret
            exact ⟨ret_eq (by rw [HE.out]; simp [E4.out]), B1⟩

set_option maxHeartbeats 1000000 in
set_option maxRecDepth 20000 in
theorem sameFace_clo (x : Fu) : IsQ 97 Fu.ds fuEq x := by
  intro y cs cs' w hcs hcs'
  have HE := Lib.hid (fuEq_eq x y)
  obtain ⟨A0A, A0m, A0c, A1, A2, A3A, A3m, A3c, A4A, A4m, A4c, A5, rfl, zA0, sA1⟩ := Fu.open_ hcs
  obtain ⟨B0A, B0m, B0c, B1, B2, B3A, B3m, B3c, B4A, B4m, B4c, B5, rfl, zB0, sB1⟩ := Fu.open_ hcs'
  have H1 := Lib.hid (And.intro sA1 sB1)
  clear hcs hcs' zA0 zB0 sA1 sB1
  cases h0 : (x.name.toList == y.name.toList)
  · have g0 : (x.name.toList != y.name.toList) = true := by simp [bne, h0]
    have E0 := Lib.hid h0
    go_enter Try.func97, Try.ntmps97
    go_wp2
    go_ret
    exact ⟨ret_eq (by rw [HE.out]; simp [E0.out]), (by repeat (first | exact Below.refl _ _ | refine Below.alloc ?_ (by first | omega | (simp <;> omega)) _))⟩
  · have g0 : (x.name.toList != y.name.toList) = false := by simp [bne, h0]
    have E0 := Lib.hid h0
    go_enter Try.func97, Try.ntmps97
    go_wp2_with fail
    refine (sameFunc_i x.ty y.ty _ _ _ (H1.out.1.below (by repeat (first | exact Below.refl _ _ | refine Below.alloc ?_ (by first | omega | (simp <;> omega)) _))) (H1.out.2.below (by repeat (first | exact Below.refl _ _ | refine Below.alloc ?_ (by first | omega | (simp <;> omega)) _)))).mono ?_
    rintro e w1 ⟨rfl, hb1⟩
    obtain ⟨B1, bA, bB⟩ := box2 (cA := [_, _, _, _, _, _, _]) (cB := [_, _, _, _, _, _, _]) hb1
    clear hb1
    have c := bA.cell
    have d := bB.cell
    cases h1 : fnEq x.ty y.ty
    · have E1 := Lib.hid h1
      clear h1
      go_wp2
      go_ret
      exact ⟨ret_eq (by rw [HE.out]; simp [E1.out]), B1⟩
    · have E1 := Lib.hid h1
      clear h1
      go_wp2
      go_ret
      exact ⟨ret_eq (by rw [HE.out]; simp [E0.out, E1.out]), B1⟩

set_option maxHeartbeats 1000000 in
theorem equalFunc_Func (q : Fu → Fu → Bool) (l m : List Fu) (hl : ∀ x ∈ l, IsQ 97 Fu.ds q x) (v v' : Value) (w : World) (hv : D.At w anyB (rows Fu.ds 7 l) v) (hv' : D.At w anyB (rows Fu.ds 7 m) v') :
    Calls Try.prog 96 #[v, v', .func (.func 97) #[] #[]] w fun e w' => e = .returned (.bool (pairs q l m)) ∧ Below w.heap.size w w' := by
  obtain ⟨A, cap, rfl, hn, hc⟩ := rows_form Fu.len hv
  obtain ⟨A', cap', rfl, hn', hc'⟩ := rows_form Fu.len hv'
  unfold maxLen at hc hc'
  have HV := Lib.hid hv
  have HV' := Lib.hid hv'
  have HL := Lib.hid hl
  clear hv hv' hl
  by_cases hlm : l.length = m.length
  · have g1 : ((l.length : Int) != (m.length : Int)) = false := by simp [hlm]
    have HLM := Lib.hid hlm
    have hle : m.length ≤ l.length := by omega
    clear hlm
    go_enter Try.func96, Try.ntmps96
    go_wp2
    go_loopw [7, 8, 9, 17] (fun _ _ _ i wr => ∃ k : Nat, k ≤ l.length ∧ i = .int .i64 k ∧ PairsTo q l m k ∧ Below w.heap.size w wr) (fun _ _ _ i _ => l.length - (intOf i).toNat)
    case atStart => exact ⟨0, Nat.zero_le _, rfl, PairsTo.zero _ _ _, Below.refl _ _⟩
    case round =>
      obtain ⟨k, hk, rfl, hst, hb⟩ := hrel
      by_cases hlt : k < l.length
      · obtain ⟨x, hx⟩ : ∃ x, l[k]? = some x := ⟨l[k], List.getElem?_eq_getElem hlt⟩
        obtain ⟨y, hy⟩ : ∃ y, m[k]? = some y := ⟨m[k]'(by have := HLM.out; omega), List.getElem?_eq_getElem (by have := HLM.out; omega)⟩
        have hltm : (k : Int) < (m.length : Int) := by have := HLM.out; omega
        have hk0 : (0 : Int) ≤ (k : Int) := by omega
        have hk1 : (k : Int) < (l.length : Int) := by omega
        obtain ⟨b, off, u0, u1, u2, u3, u4, u5, u6, rfl, -, hbl, hat, c0, c1, c2, c3, c4, c5, c6⟩ := rows_at7 Fu.len HV.out hx
        obtain ⟨b', off', v0, v1, v2, v3, v4, v5, v6, rfl, -, hbl', hat', d0, d1, d2, d3, d4, d5, d6⟩ := rows_at7 Fu.len HV'.out hy
        replace c0 := (hb.cell (p := ⟨b, off + k * 7, none⟩) hbl).trans c0
        replace c1 := (hb.cell (p := ⟨b, off + k * 7 + 1, none⟩) hbl).trans c1
        replace c2 := (hb.cell (p := ⟨b, off + k * 7 + 2, none⟩) hbl).trans c2
        replace c3 := (hb.cell (p := ⟨b, off + k * 7 + 3, none⟩) hbl).trans c3
        replace c4 := (hb.cell (p := ⟨b, off + k * 7 + 4, none⟩) hbl).trans c4
        replace c5 := (hb.cell (p := ⟨b, off + k * 7 + 5, none⟩) hbl).trans c5
        replace c6 := (hb.cell (p := ⟨b, off + k * 7 + 6, none⟩) hbl).trans c6
        replace d0 := (hb.cell (p := ⟨b', off' + k * 7, none⟩) hbl').trans d0
        replace d1 := (hb.cell (p := ⟨b', off' + k * 7 + 1, none⟩) hbl').trans d1
        replace d2 := (hb.cell (p := ⟨b', off' + k * 7 + 2, none⟩) hbl').trans d2
        replace d3 := (hb.cell (p := ⟨b', off' + k * 7 + 3, none⟩) hbl').trans d3
        replace d4 := (hb.cell (p := ⟨b', off' + k * 7 + 4, none⟩) hbl').trans d4
        replace d5 := (hb.cell (p := ⟨b', off' + k * 7 + 5, none⟩) hbl').trans d5
        replace d6 := (hb.cell (p := ⟨b', off' + k * 7 + 6, none⟩) hbl').trans d6
        have hxm : x ∈ l := List.mem_of_getElem? hx
        have HX := Lib.hid (HL.out x hxm)
        have HN := Lib.hid (And.intro hx (And.intro hy hst))
        have hbw := Nat.lt_of_lt_of_le hbl hb.size
        have hbw' := Nat.lt_of_lt_of_le hbl' hb.size
        clear hx hy hst hxm
        obtain ⟨x0, x1A, x1m, x1c, x2, x3, x4A, x4m, x4c, x5A, x5m, x5c, x6, e3⟩ := Fu.form hat
        obtain ⟨y0, y1A, y1m, y1c, y2, y3, y4A, y4m, y4c, y5A, y5m, y5c, y6, e3'⟩ := Fu.form hat'
        simp only [List.cons.injEq, and_true] at e3 e3'
        obtain ⟨rfl, rfl, rfl, rfl, rfl, rfl, rfl⟩ := e3
        obtain ⟨rfl, rfl, rfl, rfl, rfl, rfl, rfl⟩ := e3'
        have HA := Lib.hid (And.intro (hat.below hb) (hat'.below hb))
        clear hat hat'
        go_wp2_with fail
        refine (HX.out _ _ _ _ (HA.out.1.below (by repeat (first | exact Below.refl _ _ | refine Below.alloc ?_ (by first | omega | (simp <;> omega)) _))) (HA.out.2.below (by repeat (first | exact Below.refl _ _ | refine Below.alloc ?_ (by first | omega | (simp <;> omega)) _)))).mono ?_
        rintro e w2 ⟨rfl, hb1⟩
        have hsz := hb.size
        have hb2 : Below w.heap.size w w2 := hb.trans (Below.trans (by repeat (first | exact Below.refl _ _ | refine Below.alloc ?_ (by first | omega | (simp <;> omega)) _)) (hb1.mono (by simp; omega)))
        clear hb1 c0 c1 c2 c3 c4 c5 c6 d0 d1 d2 d3 d4 d5 d6
        cases hs : q x y
        · have HB := Lib.hid (pairs_bad HN.out.1 HN.out.2.1 hs)
          go_wp2
          go_ret
          exact ⟨ret_eq (by rw [HB.out]; rfl), hb2⟩
        · have HB := Lib.hid (HN.out.2.2.next HN.out.1 HN.out.2.1 hs)
          go_wp2
          go_roundw
          case rel => exact ⟨k + 1, by omega, by go_num, HB.out, hb2⟩
          case measure => simp [intOf]; omega
      · obtain rfl : k = l.length := by omega
        have HB := Lib.hid (PairsTo.end_ HLM.out hst)
        go_wp2
        go_ret
        exact ⟨ret_eq (by rw [HB.out]; rfl), hb⟩
  · have g1 : ((l.length : Int) != (m.length : Int)) = true := by rw [bne_iff_ne]; omega
    rw [pairs_len hlm]
    go_enter Try.func96, Try.ntmps96
    go_wp2
    go_ret
    exact ⟨rfl, Below.refl _ _⟩

set_option maxHeartbeats 1000000 in
set_option maxRecDepth 20000 in
theorem sameFace_i (x y : Fa) (cs cs' : List Value) (w : World) (hcs : D.Ats w anyB x.ds cs) (hcs' : D.Ats w anyB y.ds cs') :
    Calls Try.prog 50 #[.agg cs.toArray, .agg cs'.toArray] w fun e w' => e = .returned (.bool (faEq x y)) ∧ Below w.heap.size w w' := by
  have HE := Lib.hid (faEq_eq x y)
  obtain ⟨AA, Ac, AA', Ac', rfl, zA0, zA1, zA2, sA3, sA4⟩ := Fa.open_ hcs
  obtain ⟨BA, Bc, BA', Bc', rfl, zB0, zB1, zB2, sB3, sB4⟩ := Fa.open_ hcs'
  have H3 := Lib.hid (And.intro sA3 sB3)
  have H4 := Lib.hid (And.intro sA4 sB4)
  clear hcs hcs' zA0 zB0 zA1 zB1 zA2 zB2 sA3 sB3 sA4 sB4
  cases h0 : (x.pkg.toList == y.pkg.toList)
  · have g0 : (x.pkg.toList != y.pkg.toList) = true := by simp [bne, h0]
    have E0 := Lib.hid h0
    go_enter Try.func50, Try.ntmps50
    go_wp2
    go_ret
    exact ⟨ret_eq (by rw [HE.out]; simp [E0.out]), (by repeat (first | exact Below.refl _ _ | refine Below.alloc ?_ (by first | omega | (simp <;> omega)) _))⟩
  · have g0 : (x.pkg.toList != y.pkg.toList) = false := by simp [bne, h0]
    have E0 := Lib.hid h0
    cases h1 : (x.name.toList == y.name.toList)
    · have g1 : (x.name.toList != y.name.toList) = true := by simp [bne, h1]
      have E1 := Lib.hid h1
      go_enter Try.func50, Try.ntmps50
      go_wp2
      go_ret
      exact ⟨ret_eq (by rw [HE.out]; simp [E1.out]), (by repeat (first | exact Below.refl _ _ | refine Below.alloc ?_ (by first | omega | (simp <;> omega)) _))⟩
    · have g1 : (x.name.toList != y.name.toList) = false := by simp [bne, h1]
      have E1 := Lib.hid h1
      cases h2 : (x.ver.toList == y.ver.toList)
      · have g2 : (x.ver.toList != y.ver.toList) = true := by simp [bne, h2]
        have E2 := Lib.hid h2
        go_enter Try.func50, Try.ntmps50
        go_wp2
        go_ret
        exact ⟨ret_eq (by rw [HE.out]; simp [E2.out]), (by repeat (first | exact Below.refl _ _ | refine Below.alloc ?_ (by first | omega | (simp <;> omega)) _))⟩
      · have g2 : (x.ver.toList != y.ver.toList) = false := by simp [bne, h2]
        have E2 := Lib.hid h2
        go_enter Try.func50, Try.ntmps50
        go_wp2_with fail
        refine (slicesEqual_s x.owns y.owns _ _ _ (H3.out.1.below (by repeat (first | exact Below.refl _ _ | refine Below.alloc ?_ (by first | omega | (simp <;> omega)) _))) (H3.out.2.below (by repeat (first | exact Below.refl _ _ | refine Below.alloc ?_ (by first | omega | (simp <;> omega)) _)))).mono ?_
        rintro e w1 ⟨rfl, hb1⟩
        obtain ⟨B1, bA, bB⟩ := box2 (cA := [_, _, _, _, _]) (cB := [_, _, _, _, _]) hb1
        clear hb1
        have c := bA.cell
        have d := bB.cell
        cases h3 : pairs sameS x.owns y.owns
        · have E3 := Lib.hid h3
          clear h3
          go_wp2
          go_ret
          exact ⟨ret_eq (by rw [HE.out]; simp [E3.out]), B1⟩
        · have E3 := Lib.hid h3
          clear h3
          go_wp2_with fail
          refine (equalFunc_Func fuEq x.funcs y.funcs (fun x _ => sameFace_clo x) _ _ _ (H4.out.1.below B1) (H4.out.2.below B1)).mono ?_
          rintro e w2 ⟨rfl, hb2⟩
          have B2 := B1.trans (hb2.mono B1.size)
          replace bA := bA.call hb2
          replace bB := bB.call hb2
          clear c d B1
          clear hb2
          have c := bA.cell
          have d := bB.cell
          cases h4 : pairs fuEq x.funcs y.funcs
          · have E4 := Lib.hid h4
            clear h4
            go_wp2
            go_ret
            exact ⟨ret_eq (by rw [HE.out]; simp [E4.out]), B2⟩
          · have E4 := Lib.hid h4
            clear h4
            go_wp2
            go_ret
            exact ⟨ret_eq (by rw [HE.out]; simp [E0.out, E1.out, E2.out, E3.out, E4.out]), B2⟩

end Go.Proofs.Ytokppmhihghapaa
