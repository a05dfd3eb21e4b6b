/- Records: by the reference. Variants: by the reference. Tuples: by the reference. -/
import Derived.Test.YtoioljkhinodaaaGreatDoorWaA
namespace Go.Proofs.YtoioljkhinodaaaGreatDoor
open Go.RowKit Go.Shelf

set_option maxHeartbeats 4000000 in
set_option maxRecDepth 20000 in
theorem l08Record_s (m : Nat) (C : World → Prop) (hC : ∀ w w', C w → Below w.heap.size w w' → C w') (ih : WhyAt 35 C m) (k : Int) (n n' : ByteArray) (l l' : List ByteArray) (kids kids' : List Ty) (t : ByteArray) (cs cs' : List Value) (w : World) (hcw : C w) (hd : Ty.deep (.mk k n l kids) ≤ m + 1) (hx : Ty.all shape (.mk k n l kids) = true) (hy : Ty.all shape (.mk k n' l' kids') = true) (ht : t.size + 20 * (m + 1) ≤ 1000000) (hcs : D.Ats w anyB (Ty.ds (.mk k n l kids)) cs) (hcs' : D.Ats w anyB (Ty.ds (.mk k n' l' kids')) cs') (hk : k = 16) :
    Calls Tryz.prog 70 #[.agg cs.toArray, .agg cs'.toArray, .string t] w fun e w' => e = .returned (retR (firstUp (recR (whyN m) l l' kids kids' t) l'.length)) ∧ Below w.heap.size w w' := by
  subst hk
  obtain ⟨fx, kx⟩ := Fit.of hx
  obtain ⟨fy, ky⟩ := Fit.of hy
  have lx := fx.recs (by omega)
  have ly := fy.recs (by omega)
  obtain ⟨A, c, A2, c2, rfl, -, -, hl, hk1⟩ := Ty.open_ hcs
  obtain ⟨A', c', A2', c2', rfl, -, -, hl', hk1'⟩ := Ty.open_ hcs'
  have lm := fy.many
  have lab := fy.lab
  obtain ⟨w0, hw0, B0, bA, bB, bC⟩ := blocks3 w 30 30 34 [.int .i64 16, .string n, .slice A l.length c, .slice A2 kids.length c2] [.int .i64 16, .string n', .slice A' l'.length c', .slice A2' kids'.length c2'] [.int .i64 0, .string ⟨#[]⟩]
  have HL := Lib.hid (And.intro hl (And.intro hl' (And.intro hk1 hk1')))
  have HIH := Lib.hid ih
  have HLX := Lib.hid (And.intro lx ly)
  have HK := Lib.hid (And.intro kx ky)
  have HLAB := Lib.hid lab
  have HCC := Lib.hid (And.intro hC hcw)
  clear hcs hcs' hx hy fx fy hl hl' hk1 hk1' ih kx ky lab hC hcw lx ly
  obtain ⟨FF, hFF⟩ : ∃ FF, recR (whyN m) l l' kids kids' t = FF := ⟨_, rfl⟩
  have HFF := Lib.hid hFF
  rw [hFF]
  clear hFF
  change Calls Tryz.prog 70 #[.agg #[.int .i64 16, .string n, .slice A l.length c, .slice A2 kids.length c2], .agg #[.int .i64 16, .string n', .slice A' l'.length c', .slice A2' kids'.length c2'], .string t] w _
  go_enter Tryz.func70, Tryz.ntmps70
  go_upto_region 1 with fail
  rw [← hw0]
  clear hw0
  go_wp2
  go_loopw [8, 9, 10, 11] (fun i _ _ _ wr => ∃ q : Nat, q ≤ l'.length ∧ i = .int .i64 q ∧ firstUp FF q = none ∧ Below w.heap.size w wr ∧ Box wr w.heap.size 30 [.int .i64 16, .string n, .slice A l.length c, .slice A2 kids.length c2] ∧ Box wr (w.heap.size + 1) 30 [.int .i64 16, .string n', .slice A' l'.length c', .slice A2' kids'.length c2'] ∧ Box wr (w.heap.size + 2) 34 [.int .i64 0, .string ⟨#[]⟩]) (fun i _ _ _ _ => l'.length - (intOf i).toNat)
  case atStart => exact ⟨0, Nat.zero_le _, rfl, rfl, B0, bA, bB, bC⟩
  clear bA bB bC B0
  case round =>
    obtain ⟨q, hq, rfl, hno, hb, bA, bB, bC⟩ := hrel
    have HNO := Lib.hid hno
    clear hno
    have kA := bA.cell
    have kB := bB.cell
    by_cases hlt : q < l'.length
    · obtain ⟨s, hs⟩ : ∃ s, l'[q]? = some s := ⟨l'[q], List.getElem?_eq_getElem hlt⟩
      have hk0 : (0 : Int) ≤ (q : Int) := by omega
      have hk1 : (q : Int) < (l'.length : Int) := by omega
      obtain ⟨ba, offa, u0, e, -, hbl0, hat0, c0⟩ := rows_at1 strD_length HL.out.2.1 hs
      subst e
      obtain ⟨rfl, -⟩ := str_open hat0
      have hss := HLAB.out s (List.mem_of_getElem? hs)
      replace c0 := (hb.cell (p := ⟨ba, offa + q, none⟩) hbl0).trans c0
      have hbl : ba < wr.heap.size := Nat.lt_of_lt_of_le hbl0 hb.size
      have HS := Lib.hid hs
      clear hat0 hs
      obtain ⟨ix, hix⟩ : ∃ ix, idxS l s = ix := ⟨_, rfl⟩
      have HLb := Lib.hid (fun w' hv => l08Label_s l s A c w' hv)
      rw [hix] at HLb
      have HIX := Lib.hid hix
      clear hix
      have HO := Lib.hid (HL.out.1.below hb)
      have g1 := cell_regrown (show wr.cell? ⟨w.heap.size, 2, none⟩ = some (.slice A l.length c) from kA 2)
      have g2 := cell_regrown (show wr.cell? ⟨w.heap.size + 1, 2, none⟩ = some (.slice (some ⟨ba, offa, none⟩) l'.length c') from kB 2)
      have g3 := cell_regrown c0
      go_wp2_with fail
      refine wp_region_quiet_below (by kernel_rfl) (by kernel_rfl) ?_
      repeat (first | go_big_quiet_step (exact regrown_same (HLb.out _ (HO.out.below (below_regrown _ _ _)))) | quiet_step (exact regrown_same (HLb.out _ (HO.out.below (below_regrown _ _ _)))))
      refine wpQuiet_nil ?_
      intro w2 hw2
      have hb2 := below_of_regrown hw2
      have hb' := hb.trans (hb2.mono hb.size)
      replace bA := bA.call hb2
      replace bB := bB.call hb2
      replace bC := bC.call hb2
      replace c0 := (hb2.cell (p := ⟨ba, offa + q, none⟩) hbl).trans c0
      replace hbl : ba < w2.heap.size := Nat.lt_of_lt_of_le hbl hb2.size
      clear hw2 g1 g2 g3 kA kB HO HLb hb hb2
      have kA := bA.cell
      have kB := bB.cell
      have a1 : ¬ 9223372036854775807 < t.size + 1 := by omega
      have a2 : ¬ 9223372036854775807 < t.size + 1 + s.size := by omega
      cases ix with
      | none =>
        have HV := Lib.hid (show firstUp FF l'.length = some (4, dotT t s) from firstUp_hit (q := q + 1) (by rw [firstUp_next HNO.out, ← HFF.out]; exact recR_none HS.out HIX.out) hlt)
        have e5 : idxI none = -1 := rfl
        rw [e5]
        have j5 := bC.cell
        have l5 := bC.frozen
        go_wp2_with fail
        refine (l08No_s 4 _ _).mono ?_
        rintro e w3 ⟨rfl, hb3⟩
        have hb4 := hb'.trans (hb3.mono hb'.size)
        replace bC := bC.call hb3
        clear j5 l5 c0 kA kB
        have j5 := bC.cell
        have l5 := bC.frozen
        go_wp2
        exact bodyPost_ret (v := .tuple #[.agg #[.int .i64 4, .string (t ++ ⟨#[46]⟩ ++ s)], .bool true]) (by simp [results, Tryz.results70, go_sem, j5]; try rfl) rfl ⟨by rw [HV.out, retR_eq]; rfl, (hb4.setCell (by simp <;> omega) _).setCell (by simp <;> omega) _⟩
      | some k2 =>
        have hk2 : k2 < l.length := idxS_lt HIX.out
        have lx := HLX.out.1
        have ly := HLX.out.2
        obtain ⟨x, ex⟩ : ∃ x, kids[k2]? = some x := ⟨kids[k2]'(by omega), List.getElem?_eq_getElem (by omega)⟩
        obtain ⟨y, ey⟩ : ∃ y, kids'[q]? = some y := ⟨kids'[q]'(by omega), List.getElem?_eq_getElem (by omega)⟩
        obtain ⟨b, off, u0, u1, u2, u3, e, -, yb, hat, e0, e1, e2, e3⟩ := rows_at4 Ty.len (HL.out.2.2.1.below hb') ex
        subst e
        obtain ⟨b', off', v0, v1, v2, v3, e, -, yb', hat', d0, d1, d2, d3⟩ := rows_at4 Ty.len (HL.out.2.2.2.below hb') ey
        subst e
        obtain ⟨R, hR⟩ : ∃ R, whyN m x y (dotT t s) = R := ⟨_, rfl⟩
        have HX := Lib.hid (fun W (G : Below w2.heap.size w2 W) => HIH.out x y (dotT t s) [u0, u1, u2, u3] [v0, v1, v2, v3] W (deep_kid hd (List.mem_of_getElem? ex)) (HK.out.1 x (List.mem_of_getElem? ex)) (HK.out.2 y (List.mem_of_getElem? ey)) (by unfold dotT; rw [ByteArray.size_append, ByteArray.size_append]; show t.size + 1 + s.size + 20 * m ≤ 1000000; omega) (HCC.out.1 _ _ HCC.out.2 (hb'.trans (G.mono hb'.size))) (hat.below G) (hat'.below G))
        simp only [retR_eq] at HX
        rw [hR] at HX
        unfold dotT at HX
        have HV := Lib.hid (show firstUp FF (q + 1) = R by rw [firstUp_next HNO.out, ← HFF.out, ← hR]; exact (recR_some HS.out HIX.out).trans (kidR_some ex ey))
        have e5 : idxI (some k2) = (k2 : Int) := rfl
        rw [e5]
        have i0 : (0 : Int) ≤ (k2 : Int) := by omega
        have i1 : ¬ (k2 : Int) < 0 := by omega
        have i2 : (k2 : Int) < (kids.length : Int) := by omega
        have i3 : (q : Int) < (kids'.length : Int) := by omega
        have zA := bA.lt
        have zB := bB.lt
        have f1 : w2.cell? ⟨w.heap.size, 3, none⟩ = some (.slice (some ⟨b, off, none⟩) kids.length c2) := kA 3
        have f2 : w2.cell? ⟨w.heap.size + 1, 3, none⟩ = some (.slice (some ⟨b', off', none⟩) kids'.length c2') := kB 3
        have f3 : w2.cell? ⟨w.heap.size + 1, 2, none⟩ = some (.slice (some ⟨ba, offa, none⟩) l'.length c') := kB 2
        have K0 : Below w2.heap.size w2 w2.drew := (Below.refl _ w2).drew
        have K1 : Below w2.heap.size w2 (w2.alloc (.cells #[.int .i64 0, .string ⟨#[]⟩] 34)).drew := ((Below.refl _ w2).alloc (Nat.le_refl _) _).drew
        have KEEP : ∀ W, Below w2.heap.size w2 W → W.cell? ⟨w.heap.size, 3, none⟩ = some (.slice (some ⟨b, off, none⟩) kids.length c2) ∧ W.cell? ⟨w.heap.size + 1, 3, none⟩ = some (.slice (some ⟨b', off', none⟩) kids'.length c2') ∧ W.cell? ⟨w.heap.size + 1, 2, none⟩ = some (.slice (some ⟨ba, offa, none⟩) l'.length c') ∧ W.cell? ⟨ba, offa + q, none⟩ = some (.string s) ∧ W.cell? ⟨b, off + k2 * 4, none⟩ = some (u0) ∧ W.cell? ⟨b, off + k2 * 4 + 1, none⟩ = some (u1) ∧ W.cell? ⟨b, off + k2 * 4 + 2, none⟩ = some (u2) ∧ W.cell? ⟨b, off + k2 * 4 + 3, none⟩ = some (u3) ∧ W.cell? ⟨b', off' + q * 4, none⟩ = some (v0) ∧ W.cell? ⟨b', off' + q * 4 + 1, none⟩ = some (v1) ∧ W.cell? ⟨b', off' + q * 4 + 2, none⟩ = some (v2) ∧ W.cell? ⟨b', off' + q * 4 + 3, none⟩ = some (v3) := fun W G => ⟨(G.cell (p := ⟨w.heap.size, 3, none⟩) zA).trans f1, (G.cell (p := ⟨w.heap.size + 1, 3, none⟩) zB).trans f2, (G.cell (p := ⟨w.heap.size + 1, 2, none⟩) zB).trans f3, (G.cell (p := ⟨ba, offa + q, none⟩) hbl).trans c0, (G.cell (p := ⟨b, off + k2 * 4, none⟩) yb).trans e0, (G.cell (p := ⟨b, off + k2 * 4 + 1, none⟩) yb).trans e1, (G.cell (p := ⟨b, off + k2 * 4 + 2, none⟩) yb).trans e2, (G.cell (p := ⟨b, off + k2 * 4 + 3, none⟩) yb).trans e3, (G.cell (p := ⟨b', off' + q * 4, none⟩) yb').trans d0, (G.cell (p := ⟨b', off' + q * 4 + 1, none⟩) yb').trans d1, (G.cell (p := ⟨b', off' + q * 4 + 2, none⟩) yb').trans d2, (G.cell (p := ⟨b', off' + q * 4 + 3, none⟩) yb').trans d3⟩
        clear ex ey hat hat' hR kA kB lx ly
        go_upto_region 7 with fail
        go_cut [10, 11] from 12 to 63 (fun p o wx => ∃ g, p = .pointer (some ⟨g, 0, none⟩) ∧ o = .bool (rsO R) ∧ Below w2.heap.size w2 wx ∧ w2.heap.size ≤ g ∧ g < wx.heap.size ∧ wx.cell? ⟨g, 0, none⟩ = some (.int .i64 (rsK R)) ∧ wx.cell? ⟨g, 1, none⟩ = some (.string (rsT R)))
        case first =>
          go_region_held3 (fun w' => w'.cell? ⟨w.heap.size, 3, none⟩ = some (.slice (some ⟨b, off, none⟩) kids.length c2) ∧ w'.cell? ⟨w.heap.size + 1, 3, none⟩ = some (.slice (some ⟨b', off', none⟩) kids'.length c2') ∧ w'.cell? ⟨w.heap.size + 1, 2, none⟩ = some (.slice (some ⟨ba, offa, none⟩) l'.length c') ∧ w'.cell? ⟨ba, offa + q, none⟩ = some (.string s) ∧ w'.cell? ⟨b, off + k2 * 4, none⟩ = some (u0) ∧ w'.cell? ⟨b, off + k2 * 4 + 1, none⟩ = some (u1) ∧ w'.cell? ⟨b, off + k2 * 4 + 2, none⟩ = some (u2) ∧ w'.cell? ⟨b, off + k2 * 4 + 3, none⟩ = some (u3) ∧ w'.cell? ⟨b', off' + q * 4, none⟩ = some (v0) ∧ w'.cell? ⟨b', off' + q * 4 + 1, none⟩ = some (v1) ∧ w'.cell? ⟨b', off' + q * 4 + 2, none⟩ = some (v2) ∧ w'.cell? ⟨b', off' + q * 4 + 3, none⟩ = some (v3))
            (first | exact KEEP _ K0 | exact KEEP _ K1 | exact KEEP _ B5 | exact KEEP _ (B5.alloc B5.size _) | exact KEEP _ ((B5.setCell (by first | exact Nat.le_refl _ | exact K0.size | exact B5.size | (simp; done)) _).setCell (by first | exact Nat.le_refl _ | exact K0.size | exact B5.size | (simp; done)) _) | exact KEEP _ (((B5.alloc B5.size _).setCell (by first | exact B5.size | (simp; done)) _).setCell (by first | exact B5.size | (simp; done)) _) | (trace_state; fail))
            (first | (go_at_call 35; (first | (with_reducible refine (HX.out _ K0).mono ?_) | (with_reducible refine (HX.out _ K1).mono ?_)); rintro e w5 ⟨rfl, hb5⟩; have B5 : Below w2.heap.size w2 w5 := (by first | exact K0.trans (hb5.mono K0.size) | exact K1.trans (hb5.mono K1.size)); (first | (have bG : Box w5 w2.heap.size 34 [.int .i64 0, .string ⟨#[]⟩] := Box.call (w := (w2.alloc (.cells #[.int .i64 0, .string ⟨#[]⟩] 34)).drew) (Box.new w2 34 [.int .i64 0, .string ⟨#[]⟩]) hb5; have j5 := bG.cell; have l5 := bG.frozen; have z5 := bG.lt) | skip)))
          all_goals
            go_wp2_with fail
            go_meet
            first | exact ⟨_, rfl, rfl, recEnd B5 bG (by first | exact Nat.le_refl _ | exact B5.size | (simp; done))⟩ | exact ⟨_, rfl, rfl, recEnd2 B5⟩
        case rest =>
          obtain ⟨g, rfl, rfl, B1, hg, hgl, m0, m1⟩ := hcut
          obtain ⟨W1, hW1⟩ : ∃ W1, W1 = wc := ⟨_, rfl⟩
          rw [← hW1] at B1 hgl m0 m1 ⊢
          have hb6 := hb'.trans (B1.mono hb'.size)
          replace bA := bA.call B1
          replace bB := bB.call B1
          replace bC := bC.call B1
          clear hW1 KEEP f1 f2 f3 c0 e0 e1 e2 e3 d0 d1 d2 d3 K0 K1 HX
          have j5 := bC.cell
          have l5 := bC.frozen
          cases hO : rsO R
          · have HN := Lib.hid (show firstUp FF (q + 1) = none by rw [HV.out]; exact rsO_no hO)
            clear hO
            go_wp2
            go_roundw
            case rel => exact ⟨q + 1, by omega, by go_num, HN.out, hb6, bA, bB, bC⟩
            case measure => simp [intOf]; omega
          · have HN := Lib.hid (show firstUp FF l'.length = R by
              cases R with
              | none => cases hO
              | some r => exact firstUp_hit HV.out hlt)
            go_wp2
            exact bodyPost_ret (v := .tuple #[.agg #[.int .i64 (rsK R), .string (rsT R)], .bool true]) (by simp [results, Tryz.results70, go_sem, j5]) rfl ⟨by rw [HN.out, retR_eq, hO], (hb6.setCell (by simp <;> omega) _).setCell (by simp <;> omega) _⟩
    · obtain rfl : q = l'.length := by omega
      have j5 := bC.cell
      have l5 := bC.frozen
      go_wp2
      exact bodyPost_ret (v := .tuple #[.agg #[.int .i64 0, .string ⟨#[]⟩], .bool false]) (by simp [results, Tryz.results70, go_sem, j5]) rfl ⟨by rw [HNO.out]; rfl, (hb.setCell (by simp <;> omega) _).setCell (by simp <;> omega) _⟩
end Go.Proofs.YtoioljkhinodaaaGreatDoor
namespace Go.Proofs.YtoioljkhinodaaaGreatDoor
open Go.RowKit Go.Shelf

set_option maxHeartbeats 4000000 in
set_option maxRecDepth 20000 in
theorem l08Variant_s (m : Nat) (C : World → Prop) (hC : ∀ w w', C w → Below w.heap.size w w' → C w') (ih : WhyAt 35 C m) (k : Int) (n n' : ByteArray) (l l' : List ByteArray) (kids kids' : List Ty) (t : ByteArray) (cs cs' : List Value) (w : World) (hcw : C w) (hd : Ty.deep (.mk k n l kids) ≤ m + 1) (hx : Ty.all shape (.mk k n l kids) = true) (hy : Ty.all shape (.mk k n' l' kids') = true) (ht : t.size + 20 * (m + 1) ≤ 1000000) (hcs : D.Ats w anyB (Ty.ds (.mk k n l kids)) cs) (hcs' : D.Ats w anyB (Ty.ds (.mk k n' l' kids')) cs') (hk : k = 17) :
    Calls Tryz.prog 71 #[.agg cs.toArray, .agg cs'.toArray, .string t] w fun e w' => e = .returned (retR (firstUp (varR (whyN m) l l' kids kids' t) l.length)) ∧ Below w.heap.size w w' := by
  subst hk
  obtain ⟨fx, kx⟩ := Fit.of hx
  obtain ⟨fy, ky⟩ := Fit.of hy
  have lx := fx.recs (by omega)
  have ly := fy.recs (by omega)
  obtain ⟨A, c, A2, c2, rfl, -, -, hl, hk1⟩ := Ty.open_ hcs
  obtain ⟨A', c', A2', c2', rfl, -, -, hl', hk1'⟩ := Ty.open_ hcs'
  have lm := fx.many
  have lab := fx.lab
  obtain ⟨w0, hw0, B0, bA, bB, bC⟩ := blocks3 w 30 30 34 [.int .i64 17, .string n, .slice A l.length c, .slice A2 kids.length c2] [.int .i64 17, .string n', .slice A' l'.length c', .slice A2' kids'.length c2'] [.int .i64 0, .string ⟨#[]⟩]
  have HL := Lib.hid (And.intro hl (And.intro hl' (And.intro hk1 hk1')))
  have HIH := Lib.hid ih
  have HLX := Lib.hid (And.intro lx ly)
  have HK := Lib.hid (And.intro kx ky)
  have HLAB := Lib.hid lab
  have HCC := Lib.hid (And.intro hC hcw)
  clear hcs hcs' hx hy fx fy hl hl' hk1 hk1' ih kx ky lab hC hcw lx ly
  obtain ⟨FF, hFF⟩ : ∃ FF, varR (whyN m) l l' kids kids' t = FF := ⟨_, rfl⟩
  have HFF := Lib.hid hFF
  rw [hFF]
  clear hFF
  change Calls Tryz.prog 71 #[.agg #[.int .i64 17, .string n, .slice A l.length c, .slice A2 kids.length c2], .agg #[.int .i64 17, .string n', .slice A' l'.length c', .slice A2' kids'.length c2'], .string t] w _
  go_enter Tryz.func71, Tryz.ntmps71
  go_upto_region 1 with fail
  rw [← hw0]
  clear hw0
  go_wp2
  go_loopw [8, 9, 10, 11] (fun i _ _ _ wr => ∃ q : Nat, q ≤ l.length ∧ i = .int .i64 q ∧ firstUp FF q = none ∧ Below w.heap.size w wr ∧ Box wr w.heap.size 30 [.int .i64 17, .string n, .slice A l.length c, .slice A2 kids.length c2] ∧ Box wr (w.heap.size + 1) 30 [.int .i64 17, .string n', .slice A' l'.length c', .slice A2' kids'.length c2'] ∧ Box wr (w.heap.size + 2) 34 [.int .i64 0, .string ⟨#[]⟩]) (fun i _ _ _ _ => l.length - (intOf i).toNat)
  case atStart => exact ⟨0, Nat.zero_le _, rfl, rfl, B0, bA, bB, bC⟩
  clear bA bB bC B0
  case round =>
    obtain ⟨q, hq, rfl, hno, hb, bA, bB, bC⟩ := hrel
    have HNO := Lib.hid hno
    clear hno
    have kA := bA.cell
    have kB := bB.cell
    by_cases hlt : q < l.length
    · obtain ⟨s, hs⟩ : ∃ s, l[q]? = some s := ⟨l[q], List.getElem?_eq_getElem hlt⟩
      have hk0 : (0 : Int) ≤ (q : Int) := by omega
      have hk1 : (q : Int) < (l.length : Int) := by omega
      obtain ⟨ba, offa, u0, e, -, hbl0, hat0, c0⟩ := rows_at1 strD_length HL.out.1 hs
      subst e
      obtain ⟨rfl, -⟩ := str_open hat0
      have hss := HLAB.out s (List.mem_of_getElem? hs)
      replace c0 := (hb.cell (p := ⟨ba, offa + q, none⟩) hbl0).trans c0
      have hbl : ba < wr.heap.size := Nat.lt_of_lt_of_le hbl0 hb.size
      have HS := Lib.hid hs
      clear hat0 hs
      obtain ⟨ix, hix⟩ : ∃ ix, idxS l' s = ix := ⟨_, rfl⟩
      have HLb := Lib.hid (fun w' hv => l08Label_s l' s A' c' w' hv)
      rw [hix] at HLb
      have HIX := Lib.hid hix
      clear hix
      have HO := Lib.hid (HL.out.2.1.below hb)
      have g1 := cell_regrown (show wr.cell? ⟨w.heap.size, 2, none⟩ = some (.slice (some ⟨ba, offa, none⟩) l.length c) from kA 2)
      have g2 := cell_regrown (show wr.cell? ⟨w.heap.size + 1, 2, none⟩ = some (.slice A' l'.length c') from kB 2)
      have g3 := cell_regrown c0
      go_wp2_with fail
      refine wp_region_quiet_below (by kernel_rfl) (by kernel_rfl) ?_
      repeat (first | go_big_quiet_step (exact regrown_same (HLb.out _ (HO.out.below (below_regrown _ _ _)))) | quiet_step (exact regrown_same (HLb.out _ (HO.out.below (below_regrown _ _ _)))))
      refine wpQuiet_nil ?_
      intro w2 hw2
      have hb2 := below_of_regrown hw2
      have hb' := hb.trans (hb2.mono hb.size)
      replace bA := bA.call hb2
      replace bB := bB.call hb2
      replace bC := bC.call hb2
      replace c0 := (hb2.cell (p := ⟨ba, offa + q, none⟩) hbl).trans c0
      replace hbl : ba < w2.heap.size := Nat.lt_of_lt_of_le hbl hb2.size
      clear hw2 g1 g2 g3 kA kB HO HLb hb hb2
      have kA := bA.cell
      have kB := bB.cell
      have a1 : ¬ 9223372036854775807 < t.size + 1 := by omega
      have a2 : ¬ 9223372036854775807 < t.size + 1 + s.size := by omega
      cases ix with
      | none =>
        have HV := Lib.hid (show firstUp FF l.length = some (5, dotT t s) from firstUp_hit (q := q + 1) (by rw [firstUp_next HNO.out, ← HFF.out]; exact varR_none HS.out HIX.out) hlt)
        have e5 : idxI none = -1 := rfl
        rw [e5]
        have j5 := bC.cell
        have l5 := bC.frozen
        go_wp2_with fail
        refine (l08No_s 5 _ _).mono ?_
        rintro e w3 ⟨rfl, hb3⟩
        have hb4 := hb'.trans (hb3.mono hb'.size)
        replace bC := bC.call hb3
        clear j5 l5 c0 kA kB
        have j5 := bC.cell
        have l5 := bC.frozen
        go_wp2
        exact bodyPost_ret (v := .tuple #[.agg #[.int .i64 5, .string (t ++ ⟨#[46]⟩ ++ s)], .bool true]) (by simp [results, Tryz.results71, go_sem, j5]; try rfl) rfl ⟨by rw [HV.out, retR_eq]; rfl, (hb4.setCell (by simp <;> omega) _).setCell (by simp <;> omega) _⟩
      | some k2 =>
        have hk2 : k2 < l'.length := idxS_lt HIX.out
        have lx := HLX.out.1
        have ly := HLX.out.2
        obtain ⟨x, ex⟩ : ∃ x, kids[q]? = some x := ⟨kids[q]'(by omega), List.getElem?_eq_getElem (by omega)⟩
        obtain ⟨y, ey⟩ : ∃ y, kids'[k2]? = some y := ⟨kids'[k2]'(by omega), List.getElem?_eq_getElem (by omega)⟩
        obtain ⟨b, off, u0, u1, u2, u3, e, -, yb, hat, e0, e1, e2, e3⟩ := rows_at4 Ty.len (HL.out.2.2.1.below hb') ex
        subst e
        obtain ⟨b', off', v0, v1, v2, v3, e, -, yb', hat', d0, d1, d2, d3⟩ := rows_at4 Ty.len (HL.out.2.2.2.below hb') ey
        subst e
        obtain ⟨R, hR⟩ : ∃ R, whyN m x y (dotT t s) = R := ⟨_, rfl⟩
        have HX := Lib.hid (fun W (G : Below w2.heap.size w2 W) => HIH.out x y (dotT t s) [u0, u1, u2, u3] [v0, v1, v2, v3] W (deep_kid hd (List.mem_of_getElem? ex)) (HK.out.1 x (List.mem_of_getElem? ex)) (HK.out.2 y (List.mem_of_getElem? ey)) (by unfold dotT; rw [ByteArray.size_append, ByteArray.size_append]; show t.size + 1 + s.size + 20 * m ≤ 1000000; omega) (HCC.out.1 _ _ HCC.out.2 (hb'.trans (G.mono hb'.size))) (hat.below G) (hat'.below G))
        simp only [retR_eq] at HX
        rw [hR] at HX
        unfold dotT at HX
        have HV := Lib.hid (show firstUp FF (q + 1) = R by rw [firstUp_next HNO.out, ← HFF.out, ← hR]; exact (varR_some HS.out HIX.out).trans (kidR_some ex ey))
        have e5 : idxI (some k2) = (k2 : Int) := rfl
        rw [e5]
        have i0 : (0 : Int) ≤ (k2 : Int) := by omega
        have i1 : ¬ (k2 : Int) < 0 := by omega
        have i2 : (q : Int) < (kids.length : Int) := by omega
        have i3 : (k2 : Int) < (kids'.length : Int) := by omega
        have zA := bA.lt
        have zB := bB.lt
        have f1 : w2.cell? ⟨w.heap.size, 3, none⟩ = some (.slice (some ⟨b, off, none⟩) kids.length c2) := kA 3
        have f2 : w2.cell? ⟨w.heap.size + 1, 3, none⟩ = some (.slice (some ⟨b', off', none⟩) kids'.length c2') := kB 3
        have f3 : w2.cell? ⟨w.heap.size, 2, none⟩ = some (.slice (some ⟨ba, offa, none⟩) l.length c) := kA 2
        have K0 : Below w2.heap.size w2 w2.drew := (Below.refl _ w2).drew
        have K1 : Below w2.heap.size w2 (w2.alloc (.cells #[.int .i64 0, .string ⟨#[]⟩] 34)).drew := ((Below.refl _ w2).alloc (Nat.le_refl _) _).drew
        have KEEP : ∀ W, Below w2.heap.size w2 W → W.cell? ⟨w.heap.size, 3, none⟩ = some (.slice (some ⟨b, off, none⟩) kids.length c2) ∧ W.cell? ⟨w.heap.size + 1, 3, none⟩ = some (.slice (some ⟨b', off', none⟩) kids'.length c2') ∧ W.cell? ⟨w.heap.size, 2, none⟩ = some (.slice (some ⟨ba, offa, none⟩) l.length c) ∧ W.cell? ⟨ba, offa + q, none⟩ = some (.string s) ∧ W.cell? ⟨b, off + q * 4, none⟩ = some (u0) ∧ W.cell? ⟨b, off + q * 4 + 1, none⟩ = some (u1) ∧ W.cell? ⟨b, off + q * 4 + 2, none⟩ = some (u2) ∧ W.cell? ⟨b, off + q * 4 + 3, none⟩ = some (u3) ∧ W.cell? ⟨b', off' + k2 * 4, none⟩ = some (v0) ∧ W.cell? ⟨b', off' + k2 * 4 + 1, none⟩ = some (v1) ∧ W.cell? ⟨b', off' + k2 * 4 + 2, none⟩ = some (v2) ∧ W.cell? ⟨b', off' + k2 * 4 + 3, none⟩ = some (v3) := fun W G => ⟨(G.cell (p := ⟨w.heap.size, 3, none⟩) zA).trans f1, (G.cell (p := ⟨w.heap.size + 1, 3, none⟩) zB).trans f2, (G.cell (p := ⟨w.heap.size, 2, none⟩) zA).trans f3, (G.cell (p := ⟨ba, offa + q, none⟩) hbl).trans c0, (G.cell (p := ⟨b, off + q * 4, none⟩) yb).trans e0, (G.cell (p := ⟨b, off + q * 4 + 1, none⟩) yb).trans e1, (G.cell (p := ⟨b, off + q * 4 + 2, none⟩) yb).trans e2, (G.cell (p := ⟨b, off + q * 4 + 3, none⟩) yb).trans e3, (G.cell (p := ⟨b', off' + k2 * 4, none⟩) yb').trans d0, (G.cell (p := ⟨b', off' + k2 * 4 + 1, none⟩) yb').trans d1, (G.cell (p := ⟨b', off' + k2 * 4 + 2, none⟩) yb').trans d2, (G.cell (p := ⟨b', off' + k2 * 4 + 3, none⟩) yb').trans d3⟩
        clear ex ey hat hat' hR kA kB lx ly
        go_upto_region 7 with fail
        go_cut [10, 11] from 12 to 63 (fun p o wx => ∃ g, p = .pointer (some ⟨g, 0, none⟩) ∧ o = .bool (rsO R) ∧ Below w2.heap.size w2 wx ∧ w2.heap.size ≤ g ∧ g < wx.heap.size ∧ wx.cell? ⟨g, 0, none⟩ = some (.int .i64 (rsK R)) ∧ wx.cell? ⟨g, 1, none⟩ = some (.string (rsT R)))
        case first =>
          go_region_held3 (fun w' => w'.cell? ⟨w.heap.size, 3, none⟩ = some (.slice (some ⟨b, off, none⟩) kids.length c2) ∧ w'.cell? ⟨w.heap.size + 1, 3, none⟩ = some (.slice (some ⟨b', off', none⟩) kids'.length c2') ∧ w'.cell? ⟨w.heap.size, 2, none⟩ = some (.slice (some ⟨ba, offa, none⟩) l.length c) ∧ w'.cell? ⟨ba, offa + q, none⟩ = some (.string s) ∧ w'.cell? ⟨b, off + q * 4, none⟩ = some (u0) ∧ w'.cell? ⟨b, off + q * 4 + 1, none⟩ = some (u1) ∧ w'.cell? ⟨b, off + q * 4 + 2, none⟩ = some (u2) ∧ w'.cell? ⟨b, off + q * 4 + 3, none⟩ = some (u3) ∧ w'.cell? ⟨b', off' + k2 * 4, none⟩ = some (v0) ∧ w'.cell? ⟨b', off' + k2 * 4 + 1, none⟩ = some (v1) ∧ w'.cell? ⟨b', off' + k2 * 4 + 2, none⟩ = some (v2) ∧ w'.cell? ⟨b', off' + k2 * 4 + 3, none⟩ = some (v3))
            (first | exact KEEP _ K0 | exact KEEP _ K1 | exact KEEP _ B5 | exact KEEP _ (B5.alloc B5.size _) | exact KEEP _ ((B5.setCell (by first | exact Nat.le_refl _ | exact K0.size | exact B5.size | (simp; done)) _).setCell (by first | exact Nat.le_refl _ | exact K0.size | exact B5.size | (simp; done)) _) | exact KEEP _ (((B5.alloc B5.size _).setCell (by first | exact B5.size | (simp; done)) _).setCell (by first | exact B5.size | (simp; done)) _) | (trace_state; fail))
            (first | (go_at_call 35; (first | (with_reducible refine (HX.out _ K0).mono ?_) | (with_reducible refine (HX.out _ K1).mono ?_)); rintro e w5 ⟨rfl, hb5⟩; have B5 : Below w2.heap.size w2 w5 := (by first | exact K0.trans (hb5.mono K0.size) | exact K1.trans (hb5.mono K1.size)); (first | (have bG : Box w5 w2.heap.size 34 [.int .i64 0, .string ⟨#[]⟩] := Box.call (w := (w2.alloc (.cells #[.int .i64 0, .string ⟨#[]⟩] 34)).drew) (Box.new w2 34 [.int .i64 0, .string ⟨#[]⟩]) hb5; have j5 := bG.cell; have l5 := bG.frozen; have z5 := bG.lt) | skip)))
          all_goals
            go_wp2_with fail
            go_meet
            first | exact ⟨_, rfl, rfl, recEnd B5 bG (by first | exact Nat.le_refl _ | exact B5.size | (simp; done))⟩ | exact ⟨_, rfl, rfl, recEnd2 B5⟩
        case rest =>
          obtain ⟨g, rfl, rfl, B1, hg, hgl, m0, m1⟩ := hcut
          obtain ⟨W1, hW1⟩ : ∃ W1, W1 = wc := ⟨_, rfl⟩
          rw [← hW1] at B1 hgl m0 m1 ⊢
          have hb6 := hb'.trans (B1.mono hb'.size)
          replace bA := bA.call B1
          replace bB := bB.call B1
          replace bC := bC.call B1
          clear hW1 KEEP f1 f2 f3 c0 e0 e1 e2 e3 d0 d1 d2 d3 K0 K1 HX
          have j5 := bC.cell
          have l5 := bC.frozen
          cases hO : rsO R
          · have HN := Lib.hid (show firstUp FF (q + 1) = none by rw [HV.out]; exact rsO_no hO)
            clear hO
            go_wp2
            go_roundw
            case rel => exact ⟨q + 1, by omega, by go_num, HN.out, hb6, bA, bB, bC⟩
            case measure => simp [intOf]; omega
          · have HN := Lib.hid (show firstUp FF l.length = R by
              cases R with
              | none => cases hO
              | some r => exact firstUp_hit HV.out hlt)
            go_wp2
            exact bodyPost_ret (v := .tuple #[.agg #[.int .i64 (rsK R), .string (rsT R)], .bool true]) (by simp [results, Tryz.results71, go_sem, j5]) rfl ⟨by rw [HN.out, retR_eq, hO], (hb6.setCell (by simp <;> omega) _).setCell (by simp <;> omega) _⟩
    · obtain rfl : q = l.length := by omega
      have j5 := bC.cell
      have l5 := bC.frozen
      go_wp2
      exact bodyPost_ret (v := .tuple #[.agg #[.int .i64 0, .string ⟨#[]⟩], .bool false]) (by simp [results, Tryz.results71, go_sem, j5]) rfl ⟨by rw [HNO.out]; rfl, (hb.setCell (by simp <;> omega) _).setCell (by simp <;> omega) _⟩
end Go.Proofs.YtoioljkhinodaaaGreatDoor
namespace Go.Proofs.YtoioljkhinodaaaGreatDoor
open Go.RowKit Go.Shelf

theorem digits_s (q : Nat) (hq : q < 10) (w : World) : Calls Tryz.prog 103 #[.int .i64 q] w fun e w' => e = .returned (.string (decT q)) ∧ Below w.heap.size w w' := by
  have hi : (q : Int) < 10 := by omega
  have hi0 : ¬ (q : Int) < 0 := by omega
  have hcv := byte_string (w.alloc (.cells #[.int .u8 (48 + (q : Int))] 5)) w.heap.size (UInt8.ofNat (48 + q)) (48 + (q : Int)) (by simp; omega) (heap_alloc_new w _)
  have HD := Lib.hid (decT_small hq)
  go_enter Tryz.func103, Tryz.ntmps103
  go_wp2
  go_ret
  exact ⟨ret_eq (by rw [HD.out]; simp), (Below.refl _ _).alloc (Nat.le_refl _) _⟩
set_option maxHeartbeats 4000000 in
set_option maxRecDepth 20000 in
theorem l08Tuple_s (m : Nat) (C : World → Prop) (hC : ∀ w w', C w → Below w.heap.size w w' → C w') (ih : WhyAt 35 C m) (k : Int) (n n' : ByteArray) (l l' : List ByteArray) (kids kids' : List Ty) (t : ByteArray) (cs cs' : List Value) (w : World) (hcw : C w) (hd : Ty.deep (.mk k n l kids) ≤ m + 1) (hx : Ty.all shape (.mk k n l kids) = true) (hy : Ty.all shape (.mk k n' l' kids') = true) (ht : t.size + 20 * (m + 1) ≤ 1000000) (hcs : D.Ats w anyB (Ty.ds (.mk k n l kids)) cs) (hcs' : D.Ats w anyB (Ty.ds (.mk k n' l' kids')) cs') (hk : k = 15) :
    Calls Tryz.prog 69 #[.agg cs.toArray, .agg cs'.toArray, .string t] w fun e w' => e = .returned (retR (if kids.length = kids'.length then firstUp (tupR (whyN m) kids kids' t) kids.length else some (3, t))) ∧ Below w.heap.size w w' := by
  subst hk
  obtain ⟨fx, kx⟩ := Fit.of hx
  obtain ⟨fy, ky⟩ := Fit.of hy
  have lx := fx.tup rfl
  have ly := fy.tup rfl
  obtain ⟨A, c, A2, c2, rfl, -, -, -, hk1⟩ := Ty.open_ hcs
  obtain ⟨A', c', A2', c2', rfl, -, -, -, hk1'⟩ := Ty.open_ hcs'
  obtain ⟨w0, hw0, B0, bA, bB, bC⟩ := blocks3 w 30 30 34 [.int .i64 15, .string n, .slice A l.length c, .slice A2 kids.length c2] [.int .i64 15, .string n', .slice A' l'.length c', .slice A2' kids'.length c2'] [.int .i64 0, .string ⟨#[]⟩]
  have HL := Lib.hid (And.intro hk1 hk1')
  have HIH := Lib.hid ih
  have HK := Lib.hid (And.intro kx ky)
  have HCC := Lib.hid (And.intro hC hcw)
  clear hcs hcs' hx hy fx fy hk1 hk1' ih kx ky hC hcw
  change Calls Tryz.prog 69 #[.agg #[.int .i64 15, .string n, .slice A l.length c, .slice A2 kids.length c2], .agg #[.int .i64 15, .string n', .slice A' l'.length c', .slice A2' kids'.length c2'], .string t] w _
  have kA := bA.cell
  have kB := bB.cell
  by_cases hlen : kids.length = kids'.length
  · have g1 : ((kids.length : Int) != (kids'.length : Int)) = false := by simp [hlen]
    rw [if_pos hlen]
    have HLX := Lib.hid (And.intro hlen (And.intro lx ly))
    clear hlen lx ly
    obtain ⟨FF, hFF⟩ : ∃ FF, tupR (whyN m) kids kids' t = FF := ⟨_, rfl⟩
    have HFF := Lib.hid hFF
    rw [hFF]
    clear hFF
    have hle : kids.length ≤ 6 := HLX.out.2.1
    go_enter Tryz.func69, Tryz.ntmps69
    go_upto_region 1 with fail
    rw [← hw0]
    clear hw0
    go_wp2
    go_loopw [8, 9, 10] (fun i _ _ wr => ∃ q : Nat, q ≤ kids.length ∧ i = .int .i64 q ∧ firstUp FF q = none ∧ Below w.heap.size w wr ∧ Box wr w.heap.size 30 [.int .i64 15, .string n, .slice A l.length c, .slice A2 kids.length c2] ∧ Box wr (w.heap.size + 1) 30 [.int .i64 15, .string n', .slice A' l'.length c', .slice A2' kids'.length c2'] ∧ Box wr (w.heap.size + 2) 34 [.int .i64 0, .string ⟨#[]⟩]) (fun i _ _ _ => kids.length - (intOf i).toNat)
    case atStart => exact ⟨0, Nat.zero_le _, rfl, rfl, B0, bA, bB, bC⟩
    clear bA bB bC B0 kA kB
    case round =>
      obtain ⟨q, hq, rfl, hno, hb, bA, bB, bC⟩ := hrel
      have HNO := Lib.hid hno
      clear hno
      have kA := bA.cell
      have kB := bB.cell
      by_cases hlt : q < kids.length
      · have hk0 : (0 : Int) ≤ (q : Int) := by omega
        have hk1 : (q : Int) < (kids.length : Int) := by omega
        have hlen := HLX.out.1
        have hk2 : (q : Int) < (kids'.length : Int) := by omega
        obtain ⟨x, ex⟩ : ∃ x, kids[q]? = some x := ⟨kids[q], List.getElem?_eq_getElem hlt⟩
        obtain ⟨y, ey⟩ : ∃ y, kids'[q]? = some y := ⟨kids'[q]'(by omega), List.getElem?_eq_getElem (by omega)⟩
        obtain ⟨b, off, u0, u1, u2, u3, e, -, yb, hat, e0, e1, e2, e3⟩ := rows_at4 Ty.len (HL.out.1.below hb) ex
        subst e
        obtain ⟨b', off', v0, v1, v2, v3, e, -, yb', hat', d0, d1, d2, d3⟩ := rows_at4 Ty.len (HL.out.2.below hb) ey
        subst e
        have hdq : (decT q).size = 1 := by rw [decT_small (by omega)]; rfl
        obtain ⟨D, hD⟩ : ∃ D, decT q = D := ⟨_, rfl⟩
        obtain ⟨R, hR⟩ : ∃ R, whyN m x y (dotT t D) = R := ⟨_, rfl⟩
        have HV := Lib.hid (show firstUp FF (q + 1) = R by rw [firstUp_next HNO.out, ← HFF.out, ← hR, ← hD]; exact kidR_some ex ey)
        rw [hD] at hdq
        have HX := Lib.hid (fun W (G : Below wr.heap.size wr W) => HIH.out x y (dotT t D) [u0, u1, u2, u3] [v0, v1, v2, v3] W (deep_kid hd (List.mem_of_getElem? ex)) (HK.out.1 x (List.mem_of_getElem? ex)) (HK.out.2 y (List.mem_of_getElem? ey)) (by unfold dotT; rw [ByteArray.size_append, ByteArray.size_append, hdq]; show t.size + 1 + 1 + 20 * m ≤ 1000000; omega) (HCC.out.1 _ _ HCC.out.2 (hb.trans (G.mono hb.size))) (hat.below G) (hat'.below G))
        simp only [retR_eq] at HX
        rw [hR] at HX
        unfold dotT at HX
        have HD := Lib.hid (fun W (G : Below wr.heap.size wr W) => digits_s q (by omega) W)
        rw [hD] at HD
        have a1 : ¬ 9223372036854775807 < t.size + 1 := by omega
        have a2 : ¬ 9223372036854775807 < t.size + 1 + D.size := by omega
        have zA := bA.lt
        have zB := bB.lt
        have f1 : wr.cell? ⟨w.heap.size, 3, none⟩ = some (.slice (some ⟨b, off, none⟩) kids.length c2) := kA 3
        have f2 : wr.cell? ⟨w.heap.size + 1, 3, none⟩ = some (.slice (some ⟨b', off', none⟩) kids'.length c2') := kB 3
        have K0 : Below wr.heap.size wr wr.drew := (Below.refl _ wr).drew
        have K1 : Below wr.heap.size wr (wr.alloc (.cells #[.int .i64 0, .string ⟨#[]⟩] 34)).drew := ((Below.refl _ wr).alloc (Nat.le_refl _) _).drew
        have KEEP : ∀ W, Below wr.heap.size wr W → W.cell? ⟨w.heap.size, 3, none⟩ = some (.slice (some ⟨b, off, none⟩) kids.length c2) ∧ W.cell? ⟨w.heap.size + 1, 3, none⟩ = some (.slice (some ⟨b', off', none⟩) kids'.length c2') ∧ W.cell? ⟨b, off + q * 4, none⟩ = some (u0) ∧ W.cell? ⟨b, off + q * 4 + 1, none⟩ = some (u1) ∧ W.cell? ⟨b, off + q * 4 + 2, none⟩ = some (u2) ∧ W.cell? ⟨b, off + q * 4 + 3, none⟩ = some (u3) ∧ W.cell? ⟨b', off' + q * 4, none⟩ = some (v0) ∧ W.cell? ⟨b', off' + q * 4 + 1, none⟩ = some (v1) ∧ W.cell? ⟨b', off' + q * 4 + 2, none⟩ = some (v2) ∧ W.cell? ⟨b', off' + q * 4 + 3, none⟩ = some (v3) := fun W G => ⟨(G.cell (p := ⟨w.heap.size, 3, none⟩) zA).trans f1, (G.cell (p := ⟨w.heap.size + 1, 3, none⟩) zB).trans f2, (G.cell (p := ⟨b, off + q * 4, none⟩) yb).trans e0, (G.cell (p := ⟨b, off + q * 4 + 1, none⟩) yb).trans e1, (G.cell (p := ⟨b, off + q * 4 + 2, none⟩) yb).trans e2, (G.cell (p := ⟨b, off + q * 4 + 3, none⟩) yb).trans e3, (G.cell (p := ⟨b', off' + q * 4, none⟩) yb').trans d0, (G.cell (p := ⟨b', off' + q * 4 + 1, none⟩) yb').trans d1, (G.cell (p := ⟨b', off' + q * 4 + 2, none⟩) yb').trans d2, (G.cell (p := ⟨b', off' + q * 4 + 3, none⟩) yb').trans d3⟩
        clear ex ey hat hat' hR hD kA kB hlen hdq
        go_upto_region 6 with fail
        go_cut [9, 10] from 22 to 49 (fun p o wx => ∃ g, p = .pointer (some ⟨g, 0, none⟩) ∧ o = .bool (rsO R) ∧ Below wr.heap.size wr wx ∧ wr.heap.size ≤ g ∧ g < wx.heap.size ∧ wx.cell? ⟨g, 0, none⟩ = some (.int .i64 (rsK R)) ∧ wx.cell? ⟨g, 1, none⟩ = some (.string (rsT R)))
        case first =>
          go_region_held3 (fun w' => w'.cell? ⟨w.heap.size, 3, none⟩ = some (.slice (some ⟨b, off, none⟩) kids.length c2) ∧ w'.cell? ⟨w.heap.size + 1, 3, none⟩ = some (.slice (some ⟨b', off', none⟩) kids'.length c2') ∧ w'.cell? ⟨b, off + q * 4, none⟩ = some (u0) ∧ w'.cell? ⟨b, off + q * 4 + 1, none⟩ = some (u1) ∧ w'.cell? ⟨b, off + q * 4 + 2, none⟩ = some (u2) ∧ w'.cell? ⟨b, off + q * 4 + 3, none⟩ = some (u3) ∧ w'.cell? ⟨b', off' + q * 4, none⟩ = some (v0) ∧ w'.cell? ⟨b', off' + q * 4 + 1, none⟩ = some (v1) ∧ w'.cell? ⟨b', off' + q * 4 + 2, none⟩ = some (v2) ∧ w'.cell? ⟨b', off' + q * 4 + 3, none⟩ = some (v3))
            (first | exact KEEP _ K0 | exact KEEP _ K1 | exact KEEP _ B4 | exact KEEP _ (B4.alloc B4.size _) | exact KEEP _ B5 | exact KEEP _ (B5.alloc B5.size _) | exact KEEP _ ((B5.setCell (by first | exact Nat.le_refl _ | exact K0.size | exact B4.size | exact B5.size | (simp; done)) _).setCell (by first | exact Nat.le_refl _ | exact K0.size | exact B4.size | exact B5.size | (simp; done)) _) | exact KEEP _ (((B5.alloc B5.size _).setCell (by first | exact Nat.le_refl _ | exact K0.size | exact B4.size | exact B5.size | (simp; done)) _).setCell (by first | exact Nat.le_refl _ | exact K0.size | exact B4.size | exact B5.size | (simp; done)) _) | (trace_state; fail))
            (first
              | (go_at_call 103; (first | (with_reducible refine (HD.out _ K0).mono ?_) | (with_reducible refine (HD.out _ K1).mono ?_)); rintro e w4 ⟨rfl, hb4⟩; have B4 : Below wr.heap.size wr w4 := (by first | exact K0.trans (hb4.mono K0.size) | exact K1.trans (hb4.mono K1.size)); (first | (have bG4 : Box w4 wr.heap.size 34 [.int .i64 0, .string ⟨#[]⟩] := Box.call (w := (wr.alloc (.cells #[.int .i64 0, .string ⟨#[]⟩] 34)).drew) (Box.new wr 34 [.int .i64 0, .string ⟨#[]⟩]) hb4) | skip))
              | (go_at_call 35; (first | (with_reducible refine (HX.out _ B4).mono ?_) | (with_reducible refine (HX.out (w4.alloc (.cells #[.int .i64 0, .string ⟨#[]⟩] 34)) (B4.alloc B4.size _)).mono ?_)); rintro e w5 ⟨rfl, hb5⟩; have B5 : Below wr.heap.size wr w5 := (by first | exact B4.trans (hb5.mono B4.size) | exact (B4.alloc B4.size _).trans (hb5.mono (by have := B4.size; first | exact this | (simp; omega) | exact Nat.le_trans this (by simp)))); (first | (have bG : Box w5 wr.heap.size 34 [.int .i64 0, .string ⟨#[]⟩] := bG4.call hb5; have j5 := bG.cell; have l5 := bG.frozen; have z5 := bG.lt) | (have bG : Box w5 w4.heap.size 34 [.int .i64 0, .string ⟨#[]⟩] := (Box.new w4 34 [.int .i64 0, .string ⟨#[]⟩]).call hb5; have j5 := bG.cell; have l5 := bG.frozen; have z5 := bG.lt) | skip)))
          all_goals
            go_wp2_with fail
            go_meet
            first | exact ⟨_, rfl, rfl, recEnd B5 bG (by first | exact Nat.le_refl _ | exact K0.size | exact B4.size | exact B5.size | (simp; done))⟩ | exact ⟨_, rfl, rfl, recEnd2 B5⟩
        case rest =>
          obtain ⟨g, rfl, rfl, B1, hg, hgl, m0, m1⟩ := hcut
          obtain ⟨W1, hW1⟩ : ∃ W1, W1 = wc := ⟨_, rfl⟩
          rw [← hW1] at B1 hgl m0 m1 ⊢
          have hb6 := hb.trans (B1.mono hb.size)
          replace bA := bA.call B1
          replace bB := bB.call B1
          replace bC := bC.call B1
          clear hW1 KEEP f1 f2 e0 e1 e2 e3 d0 d1 d2 d3 K0 K1 HX HD
          have j5 := bC.cell
          have l5 := bC.frozen
          cases hO : rsO R
          · have HN := Lib.hid (show firstUp FF (q + 1) = none by rw [HV.out]; exact rsO_no hO)
            clear hO
            go_wp2
            go_roundw
            case rel => exact ⟨q + 1, by omega, by go_num, HN.out, hb6, bA, bB, bC⟩
            case measure => simp [intOf]; omega
          · have HN := Lib.hid (show firstUp FF kids.length = R by
              cases R with
              | none => cases hO
              | some r => exact firstUp_hit HV.out hlt)
            go_wp2
            exact bodyPost_ret (v := .tuple #[.agg #[.int .i64 (rsK R), .string (rsT R)], .bool true]) (by simp [results, Tryz.results69, go_sem, j5]) rfl ⟨by rw [HN.out, retR_eq, hO], (hb6.setCell (by simp <;> omega) _).setCell (by simp <;> omega) _⟩
      · obtain rfl : q = kids.length := by omega
        have j5 := bC.cell
        have l5 := bC.frozen
        go_wp2
        exact bodyPost_ret (v := .tuple #[.agg #[.int .i64 0, .string ⟨#[]⟩], .bool false]) (by simp [results, Tryz.results69, go_sem, j5]) rfl ⟨by rw [HNO.out]; rfl, (hb.setCell (by simp <;> omega) _).setCell (by simp <;> omega) _⟩
  · have g1 : ((kids.length : Int) != (kids'.length : Int)) = true := by rw [bne_iff_ne]; omega
    rw [if_neg hlen]
    clear hlen
    have j5 := bC.cell
    have l5 := bC.frozen
    go_enter Tryz.func69, Tryz.ntmps69
    go_upto_region 1 with fail
    rw [← hw0]
    clear hw0
    go_wp2_with fail
    refine (l08No_s 3 _ _).mono ?_
    rintro e w3 ⟨rfl, hb3⟩
    have hb4 := B0.trans (hb3.mono B0.size)
    replace bC := bC.call hb3
    clear j5 l5 kA kB
    have j5 := bC.cell
    have l5 := bC.frozen
    go_wp2
    exact bodyPost_ret (v := .tuple #[.agg #[.int .i64 3, .string t], .bool true]) (by simp [results, Tryz.results69, go_sem, j5]) rfl ⟨rfl, (hb4.setCell (by simp <;> omega) _).setCell (by simp <;> omega) _⟩
end Go.Proofs.YtoioljkhinodaaaGreatDoor
