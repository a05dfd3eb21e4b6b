/- Worlds, the same or not: by the reference and by the program. -/
import Derived.Test.YtokppmhihghapaaSameFa
namespace Go.Proofs.Ytokppmhihghapaa
open Go.RowKit

def woEq (x y : Wo) : Bool := (x.pkg.toList == y.pkg.toList) && ((x.name.toList == y.name.toList) && ((x.ver.toList == y.ver.toList) && (pairs faEq x.imps y.imps && pairs faEq x.exps y.exps)))
theorem woEq_eq (x y : Wo) : woEq x y = ((x.pkg.toList == y.pkg.toList) && ((x.name.toList == y.name.toList) && ((x.ver.toList == y.ver.toList) && (pairs faEq x.imps y.imps && pairs faEq x.exps y.exps)))) := rfl

set_option maxHeartbeats 1000000 in
theorem sameFaces_s (l m : List Fa) (hl : ∀ x ∈ l, IsQ 48 Fa.ds faEq x) (v v' : Value) (w : World) (hv : D.At w anyB (rows Fa.ds 5 l) v) (hv' : D.At w anyB (rows Fa.ds 5 m) v') :
    Calls Try.prog 100 #[v, v'] w fun e w' => e = .returned (.bool (pairs faEq l m)) ∧ Below w.heap.size w w' := by
  obtain ⟨A, cap, rfl, hn, hc⟩ := rows_form Fa.len hv
  obtain ⟨A', cap', rfl, hn', hc'⟩ := rows_form Fa.len hv'
  unfold maxLen at hc hc'
  have HV := Lib.hid hv
  have HV' := Lib.hid hv'
  have HL := Lib.hid hl
  clear hv hv' hl
  by_cases hlm : l.length = m.length
  · have g1 : ((l.length : Int) != (m.length : Int)) = false := by simp [hlm]
    have HLM := Lib.hid hlm
    have hle : m.length ≤ l.length := by omega
    clear hlm
    go_enter Try.func100, Try.ntmps100
    go_wp2
    go_loopw [5] (fun i wr => ∃ k : Nat, k ≤ l.length ∧ i = .int .i64 k ∧ PairsTo faEq l m k ∧ Below w.heap.size w wr) (fun i _ => l.length - (intOf i).toNat)
    case atStart => exact ⟨0, Nat.zero_le _, rfl, PairsTo.zero _ _ _, Below.refl _ _⟩
    case round =>
      obtain ⟨k, hk, rfl, hst, hb⟩ := hrel
      by_cases hlt : k < l.length
      · obtain ⟨x, hx⟩ : ∃ x, l[k]? = some x := ⟨l[k], List.getElem?_eq_getElem hlt⟩
        obtain ⟨y, hy⟩ : ∃ y, m[k]? = some y := ⟨m[k]'(by have := HLM.out; omega), List.getElem?_eq_getElem (by have := HLM.out; omega)⟩
        have hltm : (k : Int) < (m.length : Int) := by have := HLM.out; omega
        have hk0 : (0 : Int) ≤ (k : Int) := by omega
        have hk1 : (k : Int) < (l.length : Int) := by omega
        obtain ⟨b, off, u0, u1, u2, u3, u4, rfl, -, hbl, hat, c0, c1, c2, c3, c4⟩ := rows_at5 Fa.len HV.out hx
        obtain ⟨b', off', v0, v1, v2, v3, v4, rfl, -, hbl', hat', d0, d1, d2, d3, d4⟩ := rows_at5 Fa.len HV'.out hy
        replace c0 := cell_regrown ((hb.cell (p := ⟨b, off + k * 5, none⟩) hbl).trans c0)
        replace c1 := cell_regrown ((hb.cell (p := ⟨b, off + k * 5 + 1, none⟩) hbl).trans c1)
        replace c2 := cell_regrown ((hb.cell (p := ⟨b, off + k * 5 + 2, none⟩) hbl).trans c2)
        replace c3 := cell_regrown ((hb.cell (p := ⟨b, off + k * 5 + 3, none⟩) hbl).trans c3)
        replace c4 := cell_regrown ((hb.cell (p := ⟨b, off + k * 5 + 4, none⟩) hbl).trans c4)
        replace d0 := cell_regrown ((hb.cell (p := ⟨b', off' + k * 5, none⟩) hbl').trans d0)
        replace d1 := cell_regrown ((hb.cell (p := ⟨b', off' + k * 5 + 1, none⟩) hbl').trans d1)
        replace d2 := cell_regrown ((hb.cell (p := ⟨b', off' + k * 5 + 2, none⟩) hbl').trans d2)
        replace d3 := cell_regrown ((hb.cell (p := ⟨b', off' + k * 5 + 3, none⟩) hbl').trans d3)
        replace d4 := cell_regrown ((hb.cell (p := ⟨b', off' + k * 5 + 4, none⟩) hbl').trans d4)
        have hxm : x ∈ l := List.mem_of_getElem? hx
        have HN := Lib.hid (And.intro hx (And.intro hy hst))
        clear hx hy hst
        go_wp2_with fail
        refine wp_region_quiet_below (by kernel_rfl) (by kernel_rfl) ?_
        repeat (quiet_step (exact Calls.regrown_of (HL.out x hxm y _ _ _ ((hat.below hb).below (below_regrown _ _ _)) ((hat'.below hb).below (below_regrown _ _ _)))))
        refine wpQuiet_nil ?_
        intro w2 hw2
        have hb2 := hb.trans ((below_of_regrown hw2).mono hb.size)
        clear hw2 c0 c1 c2 c3 c4 d0 d1 d2 d3 d4
        cases hs : faEq x y
        · have HB := Lib.hid (pairs_bad HN.out.1 HN.out.2.1 hs)
          go_wp2
          go_ret
          exact ⟨ret_eq (by rw [HB.out]; rfl), hb2⟩
        · have HB := Lib.hid (HN.out.2.2.next HN.out.1 HN.out.2.1 hs)
          go_wp2
          go_roundw
          case rel => exact ⟨k + 1, by omega, by go_num, HB.out, hb2⟩
          case measure => simp [intOf]; omega
      · obtain rfl : k = l.length := by omega
        have HB := Lib.hid (PairsTo.end_ HLM.out hst)
        go_wp2
        go_ret
        exact ⟨ret_eq (by rw [HB.out]; rfl), hb⟩
  · have g1 : ((l.length : Int) != (m.length : Int)) = true := by rw [bne_iff_ne]; omega
    rw [pairs_len hlm]
    go_enter Try.func100, Try.ntmps100
    go_wp2
    go_ret
    exact ⟨rfl, Below.refl _ _⟩

set_option maxHeartbeats 1000000 in
set_option maxRecDepth 20000 in
theorem sameWorld_s (x y : Wo) (cs cs' : List Value) (w : World) (hcs : D.Ats w anyB x.ds cs) (hcs' : D.Ats w anyB y.ds cs') :
    Calls Try.prog 53 #[.agg cs.toArray, .agg cs'.toArray] w fun e w' => e = .returned (.bool (woEq x y)) ∧ Below w.heap.size w w' := by
  have HE := Lib.hid (woEq_eq x y)
  obtain ⟨AA, Ac, AA', Ac', rfl, zA0, zA1, zA2, sA3, sA4⟩ := Wo.open_ hcs
  obtain ⟨BA, Bc, BA', Bc', rfl, zB0, zB1, zB2, sB3, sB4⟩ := Wo.open_ hcs'
  have H3 := Lib.hid (And.intro sA3 sB3)
  have H4 := Lib.hid (And.intro sA4 sB4)
  clear hcs hcs' zA0 zB0 zA1 zB1 zA2 zB2 sA3 sB3 sA4 sB4
  cases h0 : (x.pkg.toList == y.pkg.toList)
  · have g0 : (x.pkg.toList != y.pkg.toList) = true := by simp [bne, h0]
    have E0 := Lib.hid h0
    go_enter Try.func53, Try.ntmps53
    go_wp2
    go_ret
    exact ⟨ret_eq (by rw [HE.out]; simp [E0.out]), (by repeat (first | exact Below.refl _ _ | refine Below.alloc ?_ (by first | omega | (simp <;> omega)) _))⟩
  · have g0 : (x.pkg.toList != y.pkg.toList) = false := by simp [bne, h0]
    have E0 := Lib.hid h0
    cases h1 : (x.name.toList == y.name.toList)
    · have g1 : (x.name.toList != y.name.toList) = true := by simp [bne, h1]
      have E1 := Lib.hid h1
      go_enter Try.func53, Try.ntmps53
      go_wp2
      go_ret
      exact ⟨ret_eq (by rw [HE.out]; simp [E1.out]), (by repeat (first | exact Below.refl _ _ | refine Below.alloc ?_ (by first | omega | (simp <;> omega)) _))⟩
    · have g1 : (x.name.toList != y.name.toList) = false := by simp [bne, h1]
      have E1 := Lib.hid h1
      cases h2 : (x.ver.toList == y.ver.toList)
      · have g2 : (x.ver.toList != y.ver.toList) = true := by simp [bne, h2]
        have E2 := Lib.hid h2
        go_enter Try.func53, Try.ntmps53
        go_wp2
        go_ret
        exact ⟨ret_eq (by rw [HE.out]; simp [E2.out]), (by repeat (first | exact Below.refl _ _ | refine Below.alloc ?_ (by first | omega | (simp <;> omega)) _))⟩
      · have g2 : (x.ver.toList != y.ver.toList) = false := by simp [bne, h2]
        have E2 := Lib.hid h2
        go_enter Try.func53, Try.ntmps53
        go_wp2_with fail
        refine (sameFaces_s x.imps y.imps (fun x _ => sameFace_s x) _ _ _ (H3.out.1.below (by repeat (first | exact Below.refl _ _ | refine Below.alloc ?_ (by first | omega | (simp <;> omega)) _))) (H3.out.2.below (by repeat (first | exact Below.refl _ _ | refine Below.alloc ?_ (by first | omega | (simp <;> omega)) _)))).mono ?_
        rintro e w1 ⟨rfl, hb1⟩
        obtain ⟨B1, bA, bB⟩ := box2 (cA := [_, _, _, _, _]) (cB := [_, _, _, _, _]) hb1
        clear hb1
        have c := bA.cell
        have d := bB.cell
        cases h3 : pairs faEq x.imps y.imps
        · have E3 := Lib.hid h3
          clear h3
          go_wp2
          go_ret
          exact ⟨ret_eq (by rw [HE.out]; simp [E3.out]), B1⟩
        · have E3 := Lib.hid h3
          clear h3
          go_wp2_with fail
          refine (sameFaces_s x.exps y.exps (fun x _ => sameFace_s x) _ _ _ (H4.out.1.below B1) (H4.out.2.below B1)).mono ?_
          rintro e w2 ⟨rfl, hb2⟩
          have B2 := B1.trans (hb2.mono B1.size)
          replace bA := bA.call hb2
          replace bB := bB.call hb2
          clear c d B1
          clear hb2
          have c := bA.cell
          have d := bB.cell
          cases h4 : pairs faEq x.exps y.exps
          · have E4 := Lib.hid h4
            clear h4
            go_wp2
            go_ret
            exact ⟨ret_eq (by rw [HE.out]; simp [E4.out]), B2⟩
          · have E4 := Lib.hid h4
            clear h4
            go_wp2
            go_ret
            exact ⟨ret_eq (by rw [HE.out]; simp [E0.out, E1.out, E2.out, E3.out, E4.out]), B2⟩

set_option maxHeartbeats 1000000 in
theorem equalFunc_Face (q : Fa → Fa → Bool) (l m : List Fa) (hl : ∀ x ∈ l, IsQ 50 Fa.ds q x) (v v' : Value) (w : World) (hv : D.At w anyB (rows Fa.ds 5 l) v) (hv' : D.At w anyB (rows Fa.ds 5 m) v') :
    Calls Try.prog 102 #[v, v', .func (.func 50) #[] #[]] w fun e w' => e = .returned (.bool (pairs q l m)) ∧ Below w.heap.size w w' := by
  obtain ⟨A, cap, rfl, hn, hc⟩ := rows_form Fa.len hv
  obtain ⟨A', cap', rfl, hn', hc'⟩ := rows_form Fa.len hv'
  unfold maxLen at hc hc'
  have HV := Lib.hid hv
  have HV' := Lib.hid hv'
  have HL := Lib.hid hl
  clear hv hv' hl
  by_cases hlm : l.length = m.length
  · have g1 : ((l.length : Int) != (m.length : Int)) = false := by simp [hlm]
    have HLM := Lib.hid hlm
    have hle : m.length ≤ l.length := by omega
    clear hlm
    go_enter Try.func102, Try.ntmps102
    go_wp2
    go_loopw [7, 8, 9, 17] (fun _ _ _ i wr => ∃ k : Nat, k ≤ l.length ∧ i = .int .i64 k ∧ PairsTo q l m k ∧ Below w.heap.size w wr) (fun _ _ _ i _ => l.length - (intOf i).toNat)
    case atStart => exact ⟨0, Nat.zero_le _, rfl, PairsTo.zero _ _ _, Below.refl _ _⟩
    case round =>
      obtain ⟨k, hk, rfl, hst, hb⟩ := hrel
      by_cases hlt : k < l.length
      · obtain ⟨x, hx⟩ : ∃ x, l[k]? = some x := ⟨l[k], List.getElem?_eq_getElem hlt⟩
        obtain ⟨y, hy⟩ : ∃ y, m[k]? = some y := ⟨m[k]'(by have := HLM.out; omega), List.getElem?_eq_getElem (by have := HLM.out; omega)⟩
        have hltm : (k : Int) < (m.length : Int) := by have := HLM.out; omega
        have hk0 : (0 : Int) ≤ (k : Int) := by omega
        have hk1 : (k : Int) < (l.length : Int) := by omega
        obtain ⟨b, off, u0, u1, u2, u3, u4, rfl, -, hbl, hat, c0, c1, c2, c3, c4⟩ := rows_at5 Fa.len HV.out hx
        obtain ⟨b', off', v0, v1, v2, v3, v4, rfl, -, hbl', hat', d0, d1, d2, d3, d4⟩ := rows_at5 Fa.len HV'.out hy
        replace c0 := (hb.cell (p := ⟨b, off + k * 5, none⟩) hbl).trans c0
        replace c1 := (hb.cell (p := ⟨b, off + k * 5 + 1, none⟩) hbl).trans c1
        replace c2 := (hb.cell (p := ⟨b, off + k * 5 + 2, none⟩) hbl).trans c2
        replace c3 := (hb.cell (p := ⟨b, off + k * 5 + 3, none⟩) hbl).trans c3
        replace c4 := (hb.cell (p := ⟨b, off + k * 5 + 4, none⟩) hbl).trans c4
        replace d0 := (hb.cell (p := ⟨b', off' + k * 5, none⟩) hbl').trans d0
        replace d1 := (hb.cell (p := ⟨b', off' + k * 5 + 1, none⟩) hbl').trans d1
        replace d2 := (hb.cell (p := ⟨b', off' + k * 5 + 2, none⟩) hbl').trans d2
        replace d3 := (hb.cell (p := ⟨b', off' + k * 5 + 3, none⟩) hbl').trans d3
        replace d4 := (hb.cell (p := ⟨b', off' + k * 5 + 4, none⟩) hbl').trans d4
        have hxm : x ∈ l := List.mem_of_getElem? hx
        have HX := Lib.hid (HL.out x hxm)
        have HN := Lib.hid (And.intro hx (And.intro hy hst))
        have hbw := Nat.lt_of_lt_of_le hbl hb.size
        have hbw' := Nat.lt_of_lt_of_le hbl' hb.size
        clear hx hy hst hxm
        obtain ⟨x0, x1, x2, x3A, x3m, x3c, x4A, x4m, x4c, e3⟩ := Fa.form hat
        obtain ⟨y0, y1, y2, y3A, y3m, y3c, y4A, y4m, y4c, e3'⟩ := Fa.form hat'
        simp only [List.cons.injEq, and_true] at e3 e3'
        obtain ⟨rfl, rfl, rfl, rfl, rfl⟩ := e3
        obtain ⟨rfl, rfl, rfl, rfl, rfl⟩ := e3'
        have HA := Lib.hid (And.intro (hat.below hb) (hat'.below hb))
        clear hat hat'
        go_wp2_with fail
        refine (HX.out _ _ _ _ (HA.out.1.below (by repeat (first | exact Below.refl _ _ | refine Below.alloc ?_ (by first | omega | (simp <;> omega)) _))) (HA.out.2.below (by repeat (first | exact Below.refl _ _ | refine Below.alloc ?_ (by first | omega | (simp <;> omega)) _)))).mono ?_
        rintro e w2 ⟨rfl, hb1⟩
        have hsz := hb.size
        have hb2 : Below w.heap.size w w2 := hb.trans (Below.trans (by repeat (first | exact Below.refl _ _ | refine Below.alloc ?_ (by first | omega | (simp <;> omega)) _)) (hb1.mono (by simp; omega)))
        clear hb1 c0 c1 c2 c3 c4 d0 d1 d2 d3 d4
        cases hs : q x y
        · have HB := Lib.hid (pairs_bad HN.out.1 HN.out.2.1 hs)
          go_wp2
          go_ret
          exact ⟨ret_eq (by rw [HB.out]; rfl), hb2⟩
        · have HB := Lib.hid (HN.out.2.2.next HN.out.1 HN.out.2.1 hs)
          go_wp2
          go_roundw
          case rel => exact ⟨k + 1, by omega, by go_num, HB.out, hb2⟩
          case measure => simp [intOf]; omega
      · obtain rfl : k = l.length := by omega
        have HB := Lib.hid (PairsTo.end_ HLM.out hst)
        go_wp2
        go_ret
        exact ⟨ret_eq (by rw [HB.out]; rfl), hb⟩
  · have g1 : ((l.length : Int) != (m.length : Int)) = true := by rw [bne_iff_ne]; omega
    rw [pairs_len hlm]
    go_enter Try.func102, Try.ntmps102
    go_wp2
    go_ret
    exact ⟨rfl, Below.refl _ _⟩

set_option maxHeartbeats 1000000 in
set_option maxRecDepth 20000 in
theorem sameWorld_i (x y : Wo) (cs cs' : List Value) (w : World) (hcs : D.Ats w anyB x.ds cs) (hcs' : D.Ats w anyB y.ds cs') :
    Calls Try.prog 55 #[.agg cs.toArray, .agg cs'.toArray] w fun e w' => e = .returned (.bool (woEq x y)) ∧ Below w.heap.size w w' := by
  have HE := Lib.hid (woEq_eq x y)
  obtain ⟨AA, Ac, AA', Ac', rfl, zA0, zA1, zA2, sA3, sA4⟩ := Wo.open_ hcs
  obtain ⟨BA, Bc, BA', Bc', rfl, zB0, zB1, zB2, sB3, sB4⟩ := Wo.open_ hcs'
  have H3 := Lib.hid (And.intro sA3 sB3)
  have H4 := Lib.hid (And.intro sA4 sB4)
  clear hcs hcs' zA0 zB0 zA1 zB1 zA2 zB2 sA3 sB3 sA4 sB4
  cases h0 : (x.pkg.toList == y.pkg.toList)
  · have g0 : (x.pkg.toList != y.pkg.toList) = true := by simp [bne, h0]
    have E0 := Lib.hid h0
    go_enter Try.func55, Try.ntmps55
    go_wp2
    go_ret
    exact ⟨ret_eq (by rw [HE.out]; simp [E0.out]), (by repeat (first | exact Below.refl _ _ | refine Below.alloc ?_ (by first | omega | (simp <;> omega)) _))⟩
  · have g0 : (x.pkg.toList != y.pkg.toList) = false := by simp [bne, h0]
    have E0 := Lib.hid h0
    cases h1 : (x.name.toList == y.name.toList)
    · have g1 : (x.name.toList != y.name.toList) = true := by simp [bne, h1]
      have E1 := Lib.hid h1
      go_enter Try.func55, Try.ntmps55
      go_wp2
      go_ret
      exact ⟨ret_eq (by rw [HE.out]; simp [E1.out]), (by repeat (first | exact Below.refl _ _ | refine Below.alloc ?_ (by first | omega | (simp <;> omega)) _))⟩
    · have g1 : (x.name.toList != y.name.toList) = false := by simp [bne, h1]
      have E1 := Lib.hid h1
      cases h2 : (x.ver.toList == y.ver.toList)
      · have g2 : (x.ver.toList != y.ver.toList) = true := by simp [bne, h2]
        have E2 := Lib.hid h2
        go_enter Try.func55, Try.ntmps55
        go_wp2
        go_ret
        exact ⟨ret_eq (by rw [HE.out]; simp [E2.out]), (by repeat (first | exact Below.refl _ _ | refine Below.alloc ?_ (by first | omega | (simp <;> omega)) _))⟩
      · have g2 : (x.ver.toList != y.ver.toList) = false := by simp [bne, h2]
        have E2 := Lib.hid h2
        go_enter Try.func55, Try.ntmps55
        go_wp2_with fail
        refine (equalFunc_Face faEq x.imps y.imps (fun x _ => sameFace_i x) _ _ _ (H3.out.1.below (by repeat (first | exact Below.refl _ _ | refine Below.alloc ?_ (by first | omega | (simp <;> omega)) _))) (H3.out.2.below (by repeat (first | exact Below.refl _ _ | refine Below.alloc ?_ (by first | omega | (simp <;> omega)) _)))).mono ?_
        rintro e w1 ⟨rfl, hb1⟩
        obtain ⟨B1, bA, bB⟩ := box2 (cA := [_, _, _, _, _]) (cB := [_, _, _, _, _]) hb1
        clear hb1
        have c := bA.cell
        have d := bB.cell
        cases h3 : pairs faEq x.imps y.imps
        · have E3 := Lib.hid h3
          clear h3
          go_wp2
          go_ret
          exact ⟨ret_eq (by rw [HE.out]; simp [E3.out]), B1⟩
        · have E3 := Lib.hid h3
          clear h3
          go_wp2_with fail
          refine (equalFunc_Face faEq x.exps y.exps (fun x _ => sameFace_i x) _ _ _ (H4.out.1.below B1) (H4.out.2.below B1)).mono ?_
          rintro e w2 ⟨rfl, hb2⟩
          have B2 := B1.trans (hb2.mono B1.size)
          replace bA := bA.call hb2
          replace bB := bB.call hb2
          clear c d B1
          clear hb2
          have c := bA.cell
          have d := bB.cell
          cases h4 : pairs faEq x.exps y.exps
          · have E4 := Lib.hid h4
            clear h4
            go_wp2
            go_ret
            exact ⟨ret_eq (by rw [HE.out]; simp [E4.out]), B2⟩
          · have E4 := Lib.hid h4
            clear h4
            go_wp2
            go_ret
            exact ⟨ret_eq (by rw [HE.out]; simp [E0.out, E1.out, E2.out, E3.out, E4.out]), B2⟩

end Go.Proofs.Ytokppmhihghapaa
