/- Function types, the same or not: by the reference and by the program. -/
import Derived.Test.YtokppmhihghapaaSameTy
namespace Go.Proofs.Ytokppmhihghapaa
open Go.RowKit

def paEq (x y : Pa) : Bool := (x.name.toList == y.name.toList) && tyEq 100 x.ty y.ty
def fnEq (x y : Fn) : Bool := (x.async == y.async) && (tyEq 100 x.res y.res && pairs paEq x.params y.params)
theorem paEq_eq (x y : Pa) : paEq x y = ((x.name.toList == y.name.toList) && tyEq 100 x.ty y.ty) := rfl
theorem fnEq_eq (x y : Fn) : fnEq x y = ((x.async == y.async) && (tyEq 100 x.res y.res && pairs paEq x.params y.params)) := rfl

set_option maxHeartbeats 1000000 in
set_option maxRecDepth 20000 in
theorem sameFunc_s (x y : Fn) (cs cs' : List Value) (w : World) (hcs : D.Ats w anyB x.ds cs) (hcs' : D.Ats w anyB y.ds cs') :
    Calls Try.prog 43 #[.agg cs.toArray, .agg cs'.toArray] w fun e w' => e = .returned (.bool (fnEq x y)) ∧ Below w.heap.size w w' := by
  have HE := Lib.hid (fnEq_eq x y)
  obtain ⟨AB, Ad, A0, A1, A2A, A2m, A2c, A3A, A3m, A3c, rfl, sA0, sA1⟩ := Fn.open_ hcs
  obtain ⟨BB, Bd, B0, B1, B2A, B2m, B2c, B3A, B3m, B3c, rfl, sB0, sB1⟩ := Fn.open_ hcs'
  have H0 := Lib.hid (And.intro sA0 sB0)
  have H1 := Lib.hid (And.intro sA1 sB1)
  obtain ⟨-, hn, hc⟩ := rows_bound sA0
  obtain ⟨-, hn', hc'⟩ := rows_bound sB0
  unfold maxLen at hc hc'
  clear hcs hcs' sA0 sB0 sA1 sB1
  by_cases hlm : x.params.length = y.params.length
  · have g0 : ((x.params.length : Int) != (y.params.length : Int)) = false := by simp [hlm]
    have HLM := Lib.hid hlm
    have hle : y.params.length ≤ x.params.length := by omega
    clear hlm
    cases h1 : (x.async == y.async)
    · have g1 : (x.async != y.async) = true := by simp [bne, h1]
      have E1 := Lib.hid h1
      go_enter Try.func43, Try.ntmps43
      go_wp2
      go_ret
      exact ⟨ret_eq (by rw [HE.out]; simp [E1.out]), (by repeat (first | exact Below.refl _ _ | refine Below.alloc ?_ (by first | omega | (simp <;> omega)) _))⟩
    · have g1 : (x.async != y.async) = false := by simp [bne, h1]
      have E1 := Lib.hid h1
      go_enter Try.func43, Try.ntmps43
      go_wp2_with fail
      refine (sameType_s x.res y.res _ _ _ (H1.out.1.below (by repeat (first | exact Below.refl _ _ | refine Below.alloc ?_ (by first | omega | (simp <;> omega)) _))) (H1.out.2.below (by repeat (first | exact Below.refl _ _ | refine Below.alloc ?_ (by first | omega | (simp <;> omega)) _)))).mono ?_
      rintro e w1 ⟨rfl, hb1⟩
      obtain ⟨B1, bA, bB⟩ := box2 (cA := [_, _, _, _, _, _]) (cB := [_, _, _, _, _, _]) hb1
      clear hb1
      have c := bA.cell
      have d := bB.cell
      cases h2 : tyEq 100 x.res y.res
      · have E2 := Lib.hid h2
        clear h2
        go_wp2
        go_ret
        exact ⟨ret_eq (by rw [HE.out]; simp [E2.out]), B1⟩
      · have E2 := Lib.hid h2
        clear h2
        go_wp2
        go_loopw [5] (fun i wr => ∃ q : Nat, q ≤ x.params.length ∧ i = .int .i64 q ∧ PairsTo paEq x.params y.params q ∧ Below w1.heap.size w1 wr) (fun i _ => x.params.length - (intOf i).toNat)
        case atStart => exact ⟨0, Nat.zero_le _, rfl, PairsTo.zero _ _ _, Below.refl _ _⟩
        case round =>
          obtain ⟨q, hq, rfl, hst, hb⟩ := hrel
          clear c d
          have fA := bA.call hb
          have fB := bB.call hb
          have c := fA.cell
          have d := fB.cell
          by_cases hlt : q < x.params.length
          · obtain ⟨u, hx⟩ : ∃ u, x.params[q]? = some u := ⟨x.params[q], List.getElem?_eq_getElem hlt⟩
            obtain ⟨v, hy⟩ : ∃ v, y.params[q]? = some v := ⟨y.params[q]'(by have := HLM.out; omega), List.getElem?_eq_getElem (by have := HLM.out; omega)⟩
            have hltm : (q : Int) < (y.params.length : Int) := by have := HLM.out; omega
            have hk0 : (0 : Int) ≤ (q : Int) := by omega
            have hk1 : (q : Int) < (x.params.length : Int) := by omega
            obtain ⟨b, off, u0, u1, u2, u3, u4, rfl, -, hbl, hat, c0, c1, c2, c3, c4⟩ := rows_at5 Pa.len H0.out.1 hx
            obtain ⟨b', off', v0, v1, v2, v3, v4, rfl, -, hbl', hat', d0, d1, d2, d3, d4⟩ := rows_at5 Pa.len H0.out.2 hy
            have Bw := B1.trans (hb.mono B1.size)
            obtain ⟨P0, P1, P2A, P2m, P2c, P3A, P3m, P3c, eu, -, hat1⟩ := Pa.open_ hat
            obtain ⟨Q0, Q1, Q2A, Q2m, Q2c, Q3A, Q3m, Q3c, ev, -, hat1'⟩ := Pa.open_ hat'
            simp only [List.cons.injEq, and_true] at eu ev
            obtain ⟨rfl, rfl, rfl, rfl, rfl⟩ := eu
            obtain ⟨rfl, rfl, rfl, rfl, rfl⟩ := ev
            replace c0 := cell_regrown ((Bw.cell (p := ⟨b, off + q * 5, none⟩) hbl).trans c0)
            replace d0 := cell_regrown ((Bw.cell (p := ⟨b', off' + q * 5, none⟩) hbl').trans d0)
            replace c1 := cell_regrown ((Bw.cell (p := ⟨b, off + q * 5 + 1, none⟩) hbl).trans c1)
            replace d1 := cell_regrown ((Bw.cell (p := ⟨b', off' + q * 5 + 1, none⟩) hbl').trans d1)
            replace c2 := cell_regrown ((Bw.cell (p := ⟨b, off + q * 5 + 2, none⟩) hbl).trans c2)
            replace d2 := cell_regrown ((Bw.cell (p := ⟨b', off' + q * 5 + 2, none⟩) hbl').trans d2)
            replace c3 := cell_regrown ((Bw.cell (p := ⟨b, off + q * 5 + 3, none⟩) hbl).trans c3)
            replace d3 := cell_regrown ((Bw.cell (p := ⟨b', off' + q * 5 + 3, none⟩) hbl').trans d3)
            replace c4 := cell_regrown ((Bw.cell (p := ⟨b, off + q * 5 + 4, none⟩) hbl).trans c4)
            replace d4 := cell_regrown ((Bw.cell (p := ⟨b', off' + q * 5 + 4, none⟩) hbl').trans d4)
            have f1 := cell_regrown (show wr.cell? ⟨w.heap.size, 0, none⟩ = some (.slice (some ⟨b, off, none⟩) x.params.length Ad) from c 0)
            have f2 := cell_regrown (show wr.cell? ⟨w.heap.size + 1, 0, none⟩ = some (.slice (some ⟨b', off', none⟩) y.params.length Bd) from d 0)
            have HN := Lib.hid (And.intro hx (And.intro hy hst))
            have HU := Lib.hid (And.intro hat1 hat1')
            clear hx hy hst hat hat' hat1 hat1'
            cases hs : (u.name.toList == v.name.toList)
            · have hne : (u.name.toList != v.name.toList) = true := by simp [bne, hs]
              have HS := Lib.hid hs
              go_wp2_with fail
              refine wp_region_quiet_below (by kernel_rfl) (by kernel_rfl) ?_
              repeat (first | go_big_quiet_step (fail) | quiet_step (fail))
              refine wpQuiet_nil ?_
              intro w8 hw8
              have hb8 := hb.trans ((below_of_regrown hw8).mono hb.size)
              have Bw8 := Bw.trans ((below_of_regrown hw8).mono Bw.size)
              clear hs hne hw8 c0 c1 c2 c3 c4  d0 d1 d2 d3 d4 f1 f2 c d
              have HB := Lib.hid (pairs_bad (q := paEq) HN.out.1 HN.out.2.1 (by rw [paEq_eq, HS.out]; rfl))
              go_wp2
              go_ret
              exact ⟨ret_eq (by rw [HE.out]; simp [HB.out]), Bw8⟩
            · have hne : (u.name.toList != v.name.toList) = false := by simp [bne, hs]
              have HS := Lib.hid hs
              go_wp2_with fail
              refine wp_region_quiet_below (by kernel_rfl) (by kernel_rfl) ?_
              repeat (first | go_big_quiet_step (exact Calls.regrown_of (sameType_s u.ty v.ty _ _ _ ((HU.out.1.below Bw).below (below_regrown _ _ _)) ((HU.out.2.below Bw).below (below_regrown _ _ _)))) | quiet_step (exact Calls.regrown_of (sameType_s u.ty v.ty _ _ _ ((HU.out.1.below Bw).below (below_regrown _ _ _)) ((HU.out.2.below Bw).below (below_regrown _ _ _)))))
              refine wpQuiet_nil ?_
              intro w8 hw8
              have hb8 := hb.trans ((below_of_regrown hw8).mono hb.size)
              have Bw8 := Bw.trans ((below_of_regrown hw8).mono Bw.size)
              clear hs hne hw8 c0 c1 c2 c3 c4  d0 d1 d2 d3 d4 f1 f2 c d
              cases h9 : tyEq 100 u.ty v.ty
              · have HB := Lib.hid (pairs_bad (q := paEq) HN.out.1 HN.out.2.1 (by rw [paEq_eq, HS.out, h9]; rfl))
                clear h9
                go_wp2
                go_ret
                exact ⟨ret_eq (by rw [HE.out]; simp [HB.out]), Bw8⟩
              · have HB := Lib.hid (HN.out.2.2.next HN.out.1 HN.out.2.1 (show paEq u v = true by rw [paEq_eq, HS.out, h9]; rfl))
                clear h9
                go_wp2
                go_roundw
                case rel => exact ⟨q + 1, by omega, by go_num, HB.out, hb8⟩
                case measure => simp [intOf]; omega
          · obtain rfl : q = x.params.length := by omega
            have HB := Lib.hid (PairsTo.end_ HLM.out hst)
            go_wp2
            go_ret
            exact ⟨ret_eq (by rw [HE.out]; simp [E1.out, E2.out, HB.out]), B1.trans (hb.mono B1.size)⟩
  · have g0 : ((x.params.length : Int) != (y.params.length : Int)) = true := by rw [bne_iff_ne]; omega
    have E0 := Lib.hid (pairs_len (q := paEq) hlm)
    go_enter Try.func43, Try.ntmps43
    go_wp2
    go_ret
    exact ⟨ret_eq (by rw [HE.out]; simp [E0.out]), (by repeat (first | exact Below.refl _ _ | refine Below.alloc ?_ (by first | omega | (simp <;> omega)) _))⟩

set_option maxHeartbeats 1000000 in
set_option maxRecDepth 20000 in
theorem sameFunc_clo (x : Pa) : IsQ 90 Pa.ds paEq x := by
  intro y cs cs' w hcs hcs'
  have HE := Lib.hid (paEq_eq x y)
  obtain ⟨A0, A1, A2A, A2m, A2c, A3A, A3m, A3c, rfl, zA0, sA1⟩ := Pa.open_ hcs
  obtain ⟨B0, B1, B2A, B2m, B2c, B3A, B3m, B3c, rfl, zB0, sB1⟩ := Pa.open_ hcs'
  have H1 := Lib.hid (And.intro sA1 sB1)
  clear hcs hcs' zA0 zB0 sA1 sB1
  cases h0 : (x.name.toList == y.name.toList)
  · have g0 : (x.name.toList != y.name.toList) = true := by simp [bne, h0]
    have E0 := Lib.hid h0
    go_enter Try.func90, Try.ntmps90
    go_wp2
    go_ret
    exact ⟨ret_eq (by rw [HE.out]; simp [E0.out]), (by repeat (first | exact Below.refl _ _ | refine Below.alloc ?_ (by first | omega | (simp <;> omega)) _))⟩
  · have g0 : (x.name.toList != y.name.toList) = false := by simp [bne, h0]
    have E0 := Lib.hid h0
    go_enter Try.func90, Try.ntmps90
    go_wp2_with fail
    refine (sameType_i x.ty y.ty _ _ _ (H1.out.1.below (by repeat (first | exact Below.refl _ _ | refine Below.alloc ?_ (by first | omega | (simp <;> omega)) _))) (H1.out.2.below (by repeat (first | exact Below.refl _ _ | refine Below.alloc ?_ (by first | omega | (simp <;> omega)) _)))).mono ?_
    rintro e w1 ⟨rfl, hb1⟩
    obtain ⟨B1, bA, bB⟩ := box2 (cA := [_, _, _, _, _]) (cB := [_, _, _, _, _]) hb1
    clear hb1
    have c := bA.cell
    have d := bB.cell
    cases h1 : tyEq 100 x.ty y.ty
    · have E1 := Lib.hid h1
      clear h1
      go_wp2
      go_ret
      exact ⟨ret_eq (by rw [HE.out]; simp [E1.out]), B1⟩
    · have E1 := Lib.hid h1
      clear h1
      go_wp2
      go_ret
      exact ⟨ret_eq (by rw [HE.out]; simp [E0.out, E1.out]), B1⟩

set_option maxHeartbeats 1000000 in
theorem equalFunc_Param (q : Pa → Pa → Bool) (l m : List Pa) (hl : ∀ x ∈ l, IsQ 90 Pa.ds q x) (v v' : Value) (w : World) (hv : D.At w anyB (rows Pa.ds 5 l) v) (hv' : D.At w anyB (rows Pa.ds 5 m) v') :
    Calls Try.prog 89 #[v, v', .func (.func 90) #[] #[]] w fun e w' => e = .returned (.bool (pairs q l m)) ∧ Below w.heap.size w w' := by
  obtain ⟨A, cap, rfl, hn, hc⟩ := rows_form Pa.len hv
  obtain ⟨A', cap', rfl, hn', hc'⟩ := rows_form Pa.len hv'
  unfold maxLen at hc hc'
  have HV := Lib.hid hv
  have HV' := Lib.hid hv'
  have HL := Lib.hid hl
  clear hv hv' hl
  by_cases hlm : l.length = m.length
  · have g1 : ((l.length : Int) != (m.length : Int)) = false := by simp [hlm]
    have HLM := Lib.hid hlm
    have hle : m.length ≤ l.length := by omega
    clear hlm
    go_enter Try.func89, Try.ntmps89
    go_wp2
    go_loopw [7, 8, 9, 17] (fun _ _ _ i wr => ∃ k : Nat, k ≤ l.length ∧ i = .int .i64 k ∧ PairsTo q l m k ∧ Below w.heap.size w wr) (fun _ _ _ i _ => l.length - (intOf i).toNat)
    case atStart => exact ⟨0, Nat.zero_le _, rfl, PairsTo.zero _ _ _, Below.refl _ _⟩
    case round =>
      obtain ⟨k, hk, rfl, hst, hb⟩ := hrel
      by_cases hlt : k < l.length
      · obtain ⟨x, hx⟩ : ∃ x, l[k]? = some x := ⟨l[k], List.getElem?_eq_getElem hlt⟩
        obtain ⟨y, hy⟩ : ∃ y, m[k]? = some y := ⟨m[k]'(by have := HLM.out; omega), List.getElem?_eq_getElem (by have := HLM.out; omega)⟩
        have hltm : (k : Int) < (m.length : Int) := by have := HLM.out; omega
        have hk0 : (0 : Int) ≤ (k : Int) := by omega
        have hk1 : (k : Int) < (l.length : Int) := by omega
        obtain ⟨b, off, u0, u1, u2, u3, u4, rfl, -, hbl, hat, c0, c1, c2, c3, c4⟩ := rows_at5 Pa.len HV.out hx
        obtain ⟨b', off', v0, v1, v2, v3, v4, rfl, -, hbl', hat', d0, d1, d2, d3, d4⟩ := rows_at5 Pa.len HV'.out hy
        replace c0 := (hb.cell (p := ⟨b, off + k * 5, none⟩) hbl).trans c0
        replace c1 := (hb.cell (p := ⟨b, off + k * 5 + 1, none⟩) hbl).trans c1
        replace c2 := (hb.cell (p := ⟨b, off + k * 5 + 2, none⟩) hbl).trans c2
        replace c3 := (hb.cell (p := ⟨b, off + k * 5 + 3, none⟩) hbl).trans c3
        replace c4 := (hb.cell (p := ⟨b, off + k * 5 + 4, none⟩) hbl).trans c4
        replace d0 := (hb.cell (p := ⟨b', off' + k * 5, none⟩) hbl').trans d0
        replace d1 := (hb.cell (p := ⟨b', off' + k * 5 + 1, none⟩) hbl').trans d1
        replace d2 := (hb.cell (p := ⟨b', off' + k * 5 + 2, none⟩) hbl').trans d2
        replace d3 := (hb.cell (p := ⟨b', off' + k * 5 + 3, none⟩) hbl').trans d3
        replace d4 := (hb.cell (p := ⟨b', off' + k * 5 + 4, none⟩) hbl').trans d4
        have hxm : x ∈ l := List.mem_of_getElem? hx
        have HX := Lib.hid (HL.out x hxm)
        have HN := Lib.hid (And.intro hx (And.intro hy hst))
        have hbw := Nat.lt_of_lt_of_le hbl hb.size
        have hbw' := Nat.lt_of_lt_of_le hbl' hb.size
        clear hx hy hst hxm
        obtain ⟨x0, x1, x2, x3A, x3m, x3c, x4A, x4m, x4c, e3⟩ := Pa.form hat
        obtain ⟨y0, y1, y2, y3A, y3m, y3c, y4A, y4m, y4c, e3'⟩ := Pa.form hat'
        simp only [List.cons.injEq, and_true] at e3 e3'
        obtain ⟨rfl, rfl, rfl, rfl, rfl⟩ := e3
        obtain ⟨rfl, rfl, rfl, rfl, rfl⟩ := e3'
        have HA := Lib.hid (And.intro (hat.below hb) (hat'.below hb))
        clear hat hat'
        go_wp2_with fail
        refine (HX.out _ _ _ _ (HA.out.1.below (by repeat (first | exact Below.refl _ _ | refine Below.alloc ?_ (by first | omega | (simp <;> omega)) _))) (HA.out.2.below (by repeat (first | exact Below.refl _ _ | refine Below.alloc ?_ (by first | omega | (simp <;> omega)) _)))).mono ?_
        rintro e w2 ⟨rfl, hb1⟩
        have hsz := hb.size
        have hb2 : Below w.heap.size w w2 := hb.trans (Below.trans (by repeat (first | exact Below.refl _ _ | refine Below.alloc ?_ (by first | omega | (simp <;> omega)) _)) (hb1.mono (by simp; omega)))
        clear hb1 c0 c1 c2 c3 c4 d0 d1 d2 d3 d4
        cases hs : q x y
        · have HB := Lib.hid (pairs_bad HN.out.1 HN.out.2.1 hs)
          go_wp2
          go_ret
          exact ⟨ret_eq (by rw [HB.out]; rfl), hb2⟩
        · have HB := Lib.hid (HN.out.2.2.next HN.out.1 HN.out.2.1 hs)
          go_wp2
          go_roundw
          case rel => exact ⟨k + 1, by omega, by go_num, HB.out, hb2⟩
          case measure => simp [intOf]; omega
      · obtain rfl : k = l.length := by omega
        have HB := Lib.hid (PairsTo.end_ HLM.out hst)
        go_wp2
        go_ret
        exact ⟨ret_eq (by rw [HB.out]; rfl), hb⟩
  · have g1 : ((l.length : Int) != (m.length : Int)) = true := by rw [bne_iff_ne]; omega
    rw [pairs_len hlm]
    go_enter Try.func89, Try.ntmps89
    go_wp2
    go_ret
    exact ⟨rfl, Below.refl _ _⟩

set_option maxHeartbeats 1000000 in
set_option maxRecDepth 20000 in
theorem sameFunc_i (x y : Fn) (cs cs' : List Value) (w : World) (hcs : D.Ats w anyB x.ds cs) (hcs' : D.Ats w anyB y.ds cs') :
    Calls Try.prog 45 #[.agg cs.toArray, .agg cs'.toArray] w fun e w' => e = .returned (.bool (fnEq x y)) ∧ Below w.heap.size w w' := by
  have HE := Lib.hid (fnEq_eq x y)
  obtain ⟨AB, Ad, A0, A1, A2A, A2m, A2c, A3A, A3m, A3c, rfl, sA0, sA1⟩ := Fn.open_ hcs
  obtain ⟨BB, Bd, B0, B1, B2A, B2m, B2c, B3A, B3m, B3c, rfl, sB0, sB1⟩ := Fn.open_ hcs'
  have H0 := Lib.hid (And.intro sA0 sB0)
  have H1 := Lib.hid (And.intro sA1 sB1)
  clear hcs hcs' sA0 sB0 sA1 sB1
  cases h0 : (x.async == y.async)
  · have g0 : (x.async != y.async) = true := by simp [bne, h0]
    have E0 := Lib.hid h0
    go_enter Try.func45, Try.ntmps45
    go_wp2
    go_ret
    exact ⟨ret_eq (by rw [HE.out]; simp [E0.out]), (by repeat (first | exact Below.refl _ _ | refine Below.alloc ?_ (by first | omega | (simp <;> omega)) _))⟩
  · have g0 : (x.async != y.async) = false := by simp [bne, h0]
    have E0 := Lib.hid h0
    go_enter Try.func45, Try.ntmps45
    go_wp2_with fail
    refine (sameType_i x.res y.res _ _ _ (H1.out.1.below (by repeat (first | exact Below.refl _ _ | refine Below.alloc ?_ (by first | omega | (simp <;> omega)) _))) (H1.out.2.below (by repeat (first | exact Below.refl _ _ | refine Below.alloc ?_ (by first | omega | (simp <;> omega)) _)))).mono ?_
    rintro e w1 ⟨rfl, hb1⟩
    obtain ⟨B1, bA, bB⟩ := box2 (cA := [_, _, _, _, _, _]) (cB := [_, _, _, _, _, _]) hb1
    clear hb1
    have c := bA.cell
    have d := bB.cell
    cases h1 : tyEq 100 x.res y.res
    · have E1 := Lib.hid h1
      clear h1
      go_wp2
      go_ret
      exact ⟨ret_eq (by rw [HE.out]; simp [E1.out]), B1⟩
    · have E1 := Lib.hid h1
      clear h1
      go_wp2_with fail
      refine (equalFunc_Param paEq x.params y.params (fun x _ => sameFunc_clo x) _ _ _ (H0.out.1.below B1) (H0.out.2.below B1)).mono ?_
      rintro e w2 ⟨rfl, hb2⟩
      have B2 := B1.trans (hb2.mono B1.size)
      replace bA := bA.call hb2
      replace bB := bB.call hb2
      clear c d B1
      clear hb2
      have c := bA.cell
      have d := bB.cell
      cases h2 : pairs paEq x.params y.params
      · have E2 := Lib.hid h2
        clear h2
        go_wp2
        go_ret
        exact ⟨ret_eq (by rw [HE.out]; simp [E2.out]), B2⟩
      · have E2 := Lib.hid h2
        clear h2
        go_wp2
        go_ret
        exact ⟨ret_eq (by rw [HE.out]; simp [E0.out, E1.out, E2.out]), B2⟩

end Go.Proofs.Ytokppmhihghapaa
