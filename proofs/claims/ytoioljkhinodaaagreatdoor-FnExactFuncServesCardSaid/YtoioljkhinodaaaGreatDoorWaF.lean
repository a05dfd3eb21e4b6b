/- Why one function type cannot serve for another: plain. Why one function type cannot serve for another: by the reference. Why one function type cannot serve for another: by the program. FuncServes: by the reference and by the program. -/
import Derived.Test.YtoioljkhinodaaaGreatDoorWaA
import Derived.Test.YtoioljkhinodaaaGreatDoorWaK
import Derived.BigQuiet
import Derived.Deep.RegionHeld3
import Derived.Deep.DeepCutAuto
import Derived.Test.YtoioljkhinodaaaGreatDoorWaE
import Derived.Test.YtoioljkhinodaaaGreatDoorWaM
namespace Go.Proofs.YtoioljkhinodaaaGreatDoor
open Go.RowKit Go.Shelf

def whT (t s : ByteArray) : ByteArray := t ++ ⟨#[40]⟩ ++ s ++ ⟨#[41]⟩
def parR (ps qs : List Pa) (t : ByteArray) (i : Nat) : Rs :=
  match ps[i]?, qs[i]? with
  | some p, some q => if (p.name.toList == q.name.toList) = true then whyN 4 q.ty p.ty (whT t q.name) else some (7, whT t q.name)
  | _, _ => none
theorem parR_ne {ps qs : List Pa} {t : ByteArray} {i : Nat} {p q : Pa} (h : ps[i]? = some p) (h2 : qs[i]? = some q) (hn : (p.name.toList == q.name.toList) = false) : parR ps qs t i = some (7, whT t q.name) := by
  unfold parR; rw [h, h2]; exact if_neg (by rw [hn]; decide)
theorem parR_eq {ps qs : List Pa} {t : ByteArray} {i : Nat} {p q : Pa} (h : ps[i]? = some p) (h2 : qs[i]? = some q) (hn : (p.name.toList == q.name.toList) = true) : parR ps qs t i = whyN 4 q.ty p.ty (whT t q.name) := by
  unfold parR; rw [h, h2]; exact if_pos hn
def asyR (a b : Bool) (t : ByteArray) : Rs := if (a && !b) = true then some (8, t) else none
def fnWhy (a b : Fn) (t : ByteArray) : Rs :=
  if a.params.length = b.params.length then orR (firstUp (parR a.params b.params t) a.params.length) (orR (whyN 4 a.res b.res (t ++ ⟨#[45, 62]⟩)) (asyR a.async b.async t)) else some (7, t)
structure FnFit (ps : List Pa) (res : Ty) : Prop where
  many : ps.length ≤ 6
  par : ∀ p ∈ ps, p.name.size ≤ 12 ∧ p.ty.deep ≤ 4 ∧ Ty.all shape p.ty = true
  res : res.deep ≤ 4 ∧ Ty.all shape res = true
theorem tyOk_fit {x : Ty} (h : tyOk x = true) : x.deep ≤ 4 ∧ Ty.all shape x = true := by
  unfold tyOk at h
  simp only [Bool.and_eq_true, decide_eq_true_eq] at h
  exact ⟨h.1, h.2.2⟩
theorem FnFit.of {ps : List Pa} {res : Ty} {a : Bool} (h : fnOk ⟨ps, res, a⟩ = true) : FnFit ps res := by
  unfold fnOk pasOk resOk at h
  simp only [Bool.and_eq_true, decide_eq_true_eq, Bool.not_eq_true'] at h
  obtain ⟨⟨h1, h2, -⟩, h4, -⟩ := h
  refine ⟨h1, fun p hp => ?_, tyOk_fit h4⟩
  have h5 : paOk p = true := by
    cases h6 : paOk p
    · have : (ps.any fun p => !paOk p) = true := List.any_eq_true.2 ⟨p, hp, by rw [h6]; rfl⟩
      rw [h2] at this
      cases this
    · rfl
  unfold paOk at h5
  simp only [Bool.and_eq_true] at h5
  refine ⟨?_, tyOk_fit h5.2.1⟩
  have h7 := h5.1
  unfold nameOk at h7
  simp only [Bool.and_eq_true, decide_eq_true_eq] at h7
  exact h7.1.2.1
end Go.Proofs.YtoioljkhinodaaaGreatDoor
namespace Go.Proofs.YtoioljkhinodaaaGreatDoor
open Go.RowKit Go.Shelf

set_option maxHeartbeats 4000000 in
set_option maxRecDepth 20000 in
theorem fnWhy_s (C : World → Prop) (hC : ∀ w w', C w → Below w.heap.size w w' → C w') (ih : WhyAt 35 C 4) (a b : Fn) (t : ByteArray) (cs cs' : List Value) (w : World) (hcw : C w) (hx : fnOk a = true) (hy : fnOk b = true) (ht : t.size ≤ 1000) (hcs : D.Ats w anyB a.ds cs) (hcs' : D.Ats w anyB b.ds cs') :
    Calls Tryz.prog 39 #[.agg cs.toArray, .agg cs'.toArray, .string t] w fun e w' => e = .returned (retR (fnWhy a b t)) ∧ Below w.heap.size w w' := by
  obtain ⟨ps, res, aa⟩ := a
  obtain ⟨qs, res', bb⟩ := b
  have fx := FnFit.of hx
  have fy := FnFit.of hy
  obtain ⟨PA, cA, k, n, A1, m1, c1, A2, m2, c2, rfl, hp, hr⟩ := Fn.open_ hcs
  obtain ⟨PB, cB, k', n', A1', m1', c1', A2', m2', c2', rfl, hq, hr'⟩ := Fn.open_ hcs'
  simp only at hp hr hq hr'
  obtain ⟨w0, hw0, B0, bA, bB, bC⟩ := blocks3 w 45 45 34 [.slice PA ps.length cA, .int .i64 k, .string n, .slice A1 m1 c1, .slice A2 m2 c2, .bool aa] [.slice PB qs.length cB, .int .i64 k', .string n', .slice A1' m1' c1', .slice A2' m2' c2', .bool bb] [.int .i64 0, .string ⟨#[]⟩]
  have HL := Lib.hid (And.intro hp hq)
  have HR := Lib.hid (And.intro hr hr')
  have HIH := Lib.hid ih
  have HFX := Lib.hid (And.intro fx fy)
  have HCC := Lib.hid (And.intro hC hcw)
  have le6 := fx.many
  clear hcs hcs' hx hy fx fy hp hr hq hr' ih hC hcw
  change Calls Tryz.prog 39 #[.agg #[.slice PA ps.length cA, .int .i64 k, .string n, .slice A1 m1 c1, .slice A2 m2 c2, .bool aa], .agg #[.slice PB qs.length cB, .int .i64 k', .string n', .slice A1' m1' c1', .slice A2' m2' c2', .bool bb], .string t] w _
  have kA := bA.cell
  have kB := bB.cell
  by_cases hlen : ps.length = qs.length
  · have g1 : ((ps.length : Int) != (qs.length : Int)) = false := by simp [hlen]
    have HV := Lib.hid (show fnWhy ⟨ps, res, aa⟩ ⟨qs, res', bb⟩ t = orR (firstUp (parR ps qs t) ps.length) (orR (whyN 4 res res' (t ++ ⟨#[45, 62]⟩)) (asyR aa bb t)) from if_pos hlen)
    have HLX := Lib.hid hlen
    clear hlen
    obtain ⟨FF, hFF⟩ : ∃ FF, parR ps qs t = FF := ⟨_, rfl⟩
    have HFF := Lib.hid hFF
    rw [hFF] at HV
    clear hFF
    go_enter Tryz.func39, Tryz.ntmps39
    go_upto_region 1 with fail
    rw [← hw0]
    clear hw0
    go_wp2
    go_loopw [8, 9, 10, 11] (fun i _ _ _ wr => ∃ q : Nat, q ≤ ps.length ∧ i = .int .i64 q ∧ firstUp FF q = none ∧ Below w.heap.size w wr ∧ Box wr w.heap.size 45 [.slice PA ps.length cA, .int .i64 k, .string n, .slice A1 m1 c1, .slice A2 m2 c2, .bool aa] ∧ Box wr (w.heap.size + 1) 45 [.slice PB qs.length cB, .int .i64 k', .string n', .slice A1' m1' c1', .slice A2' m2' c2', .bool bb] ∧ Box wr (w.heap.size + 2) 34 [.int .i64 0, .string ⟨#[]⟩]) (fun i _ _ _ _ => ps.length - (intOf i).toNat)
    case atStart => exact ⟨0, Nat.zero_le _, rfl, rfl, B0, bA, bB, bC⟩
    clear bA bB bC B0 kA kB
    case round =>
      obtain ⟨q, hq, rfl, hno, hb, bA, bB, bC⟩ := hrel
      have HNO := Lib.hid hno
      clear hno
      have kA := bA.cell
      have kB := bB.cell
      by_cases hlt : q < ps.length
      · have hk0 : (0 : Int) ≤ (q : Int) := by omega
        have hk1 : (q : Int) < (ps.length : Int) := by omega
        have hlen := HLX.out
        have hk2 : (q : Int) < (qs.length : Int) := by omega
        have hk3 : (q : Int) ≤ (qs.length : Int) := by omega
        obtain ⟨x, ex⟩ : ∃ x, ps[q]? = some x := ⟨ps[q], List.getElem?_eq_getElem hlt⟩
        obtain ⟨y, ey⟩ : ∃ y, qs[q]? = some y := ⟨qs[q]'(by omega), List.getElem?_eq_getElem (by omega)⟩
        obtain ⟨ba, offa, u0, u1, u2, u3, u4, e, -, ya, hat, e0, e1, e2, e3, e4⟩ := rows_at5 Pa.len (HL.out.1.below hb) ex
        subst e
        obtain ⟨bq, offq, v0, v1, v2, v3, v4, e, -, yq, hat', d0, d1, d2, d3, d4⟩ := rows_at5 Pa.len (HL.out.2.below hb) ey
        subst e
        obtain ⟨xk, xn, X1, xm, xc, X2, xm2, xc2, exx, -, hatx⟩ := Pa.open_ hat
        obtain ⟨yk, yn, Y1, ym, yc, Y2, ym2, yc2, eyy, -, haty⟩ := Pa.open_ hat'
        simp only [List.cons.injEq, and_true] at exx eyy
        obtain ⟨rfl, rfl, rfl, rfl, rfl⟩ := exx
        obtain ⟨rfl, rfl, rfl, rfl, rfl⟩ := eyy
        have hxp := HFX.out.1.par x (List.mem_of_getElem? ex)
        have hyp := HFX.out.2.par y (List.mem_of_getElem? ey)
        have hy12 := hyp.1
        have HE := Lib.hid (And.intro ex ey)
        have HXY := Lib.hid (And.intro hxp.2 hyp.2)
        have HAT := Lib.hid (And.intro hatx haty)
        have a1 : ¬ 9223372036854775807 < t.size + 1 := by omega
        have a2 : ¬ 9223372036854775807 < t.size + 1 + y.name.size := by omega
        have a3 : ¬ 9223372036854775807 < t.size + 1 + y.name.size + 1 := by omega
        have hbn : (x.name.toList != y.name.toList) = !(x.name.toList == y.name.toList) := rfl
        clear ex ey hat hat' hatx haty hxp hyp hlen
        go_upto_region 7 with fail
        have g1 := cell_regrown (show wr.cell? ⟨w.heap.size, 0, none⟩ = some (.slice (some ⟨ba, offa, none⟩) ps.length cA) from kA 0)
        have g2 := cell_regrown (show wr.cell? ⟨w.heap.size + 1, 0, none⟩ = some (.slice (some ⟨bq, offq, none⟩) qs.length cB) from kB 0)
        have g3 := cell_regrown e0
        have g4 := cell_regrown d0
        cases heq : (x.name.toList == y.name.toList)
        all_goals
          rw [heq] at hbn
          have HEQ := Lib.hid heq
          first | simp only [Bool.not_false] at hbn | simp only [Bool.not_true] at hbn
          refine wp_region_quiet_below (by kernel_rfl) (by kernel_rfl) ?_
          repeat (first | go_big_quiet_step (fail) | quiet_step (fail))
          refine wpQuiet_nil ?_
          intro w2 hw2
          have hb2 := below_of_regrown hw2
          have hb' := hb.trans (hb2.mono hb.size)
          clear hw2 g1 g2 g3 g4
          replace e0 := (hb2.cell (p := ⟨ba, offa + q * 5, none⟩) ya).trans e0
          replace e1 := (hb2.cell (p := ⟨ba, offa + q * 5 + 1, none⟩) ya).trans e1
          replace e2 := (hb2.cell (p := ⟨ba, offa + q * 5 + 2, none⟩) ya).trans e2
          replace e3 := (hb2.cell (p := ⟨ba, offa + q * 5 + 3, none⟩) ya).trans e3
          replace e4 := (hb2.cell (p := ⟨ba, offa + q * 5 + 4, none⟩) ya).trans e4
          replace d0 := (hb2.cell (p := ⟨bq, offq + q * 5, none⟩) yq).trans d0
          replace d1 := (hb2.cell (p := ⟨bq, offq + q * 5 + 1, none⟩) yq).trans d1
          replace d2 := (hb2.cell (p := ⟨bq, offq + q * 5 + 2, none⟩) yq).trans d2
          replace d3 := (hb2.cell (p := ⟨bq, offq + q * 5 + 3, none⟩) yq).trans d3
          replace d4 := (hb2.cell (p := ⟨bq, offq + q * 5 + 4, none⟩) yq).trans d4
          replace ya : ba < w2.heap.size := Nat.lt_of_lt_of_le ya hb2.size
          replace yq : bq < w2.heap.size := Nat.lt_of_lt_of_le yq hb2.size
          replace bA := bA.call hb2
          replace bB := bB.call hb2
          replace bC := bC.call hb2
          have HAT2 := Lib.hid (And.intro (HAT.out.1.below hb2) (HAT.out.2.below hb2))
          clear hb hb2 HAT kA kB
          have kA := bA.cell
          have kB := bB.cell
        · have HVV := Lib.hid (show firstUp FF ps.length = some (7, whT t y.name) from firstUp_hit (q := q + 1) (by rw [firstUp_next HNO.out, ← HFF.out]; exact parR_ne HE.out.1 HE.out.2 HEQ.out) hlt)
          have j5 := bC.cell
          have l5 := bC.frozen
          go_wp2_with fail
          refine (l08No_s 7 _ _).mono ?_
          rintro e w3 ⟨rfl, hb3⟩
          have hb4 := hb'.trans (hb3.mono hb'.size)
          replace bC := bC.call hb3
          clear j5 l5 kA kB
          have j5 := bC.cell
          have l5 := bC.frozen
          go_wp2
          exact bodyPost_ret (v := .tuple #[.agg #[.int .i64 7, .string (t ++ ⟨#[40]⟩ ++ y.name ++ ⟨#[41]⟩)], .bool true]) (by simp [results, Tryz.results39, go_sem, j5]) rfl ⟨by rw [HV.out, HVV.out]; rfl, (hb4.setCell (by simp <;> omega) _).setCell (by simp <;> omega) _⟩
        · obtain ⟨R, hR⟩ : ∃ R, whyN 4 y.ty x.ty (whT t y.name) = R := ⟨_, rfl⟩
          have HX := Lib.hid (fun W (G : Below w2.heap.size w2 W) => HIH.out y.ty x.ty (whT t y.name) [.int .i64 yk, .string yn, .slice Y1 ym yc, .slice Y2 ym2 yc2] [.int .i64 xk, .string xn, .slice X1 xm xc, .slice X2 xm2 xc2] W HXY.out.2.1 HXY.out.2.2 HXY.out.1.2 (by unfold whT; rw [ByteArray.size_append, ByteArray.size_append, ByteArray.size_append]; show t.size + 1 + y.name.size + 1 + 20 * 4 ≤ 1000000; omega) (HCC.out.1 _ _ HCC.out.2 (hb'.trans (G.mono hb'.size))) (HAT2.out.2.below G) (HAT2.out.1.below G))
          simp only [retR_eq] at HX
          rw [hR] at HX
          unfold whT at HX
          have HVV := Lib.hid (show firstUp FF (q + 1) = R by rw [firstUp_next HNO.out, ← HFF.out, ← hR]; exact parR_eq HE.out.1 HE.out.2 HEQ.out)
          have zA := bA.lt
          have zB := bB.lt
          have f1 : w2.cell? ⟨w.heap.size, 0, none⟩ = some (.slice (some ⟨ba, offa, none⟩) ps.length cA) := kA 0
          have f2 : w2.cell? ⟨w.heap.size + 1, 0, none⟩ = some (.slice (some ⟨bq, offq, none⟩) qs.length cB) := kB 0
          have K0 : Below w2.heap.size w2 w2.drew := (Below.refl _ w2).drew
          have K1 : Below w2.heap.size w2 (w2.alloc (.cells #[.int .i64 0, .string ⟨#[]⟩] 34)).drew := ((Below.refl _ w2).alloc (Nat.le_refl _) _).drew
          have KEEP : ∀ W, Below w2.heap.size w2 W → W.cell? ⟨w.heap.size, 0, none⟩ = some (.slice (some ⟨ba, offa, none⟩) ps.length cA) ∧ W.cell? ⟨w.heap.size + 1, 0, none⟩ = some (.slice (some ⟨bq, offq, none⟩) qs.length cB) ∧ W.cell? ⟨ba, offa + q * 5 + 1, none⟩ = some (.int .i64 xk) ∧ W.cell? ⟨ba, offa + q * 5 + 2, none⟩ = some (.string xn) ∧ W.cell? ⟨ba, offa + q * 5 + 3, none⟩ = some (.slice X1 xm xc) ∧ W.cell? ⟨ba, offa + q * 5 + 4, none⟩ = some (.slice X2 xm2 xc2) ∧ W.cell? ⟨bq, offq + q * 5 + 1, none⟩ = some (.int .i64 yk) ∧ W.cell? ⟨bq, offq + q * 5 + 2, none⟩ = some (.string yn) ∧ W.cell? ⟨bq, offq + q * 5 + 3, none⟩ = some (.slice Y1 ym yc) ∧ W.cell? ⟨bq, offq + q * 5 + 4, none⟩ = some (.slice Y2 ym2 yc2) := fun W G => ⟨(G.cell (p := ⟨w.heap.size, 0, none⟩) zA).trans f1, (G.cell (p := ⟨w.heap.size + 1, 0, none⟩) zB).trans f2, (G.cell (p := ⟨ba, offa + q * 5 + 1, none⟩) ya).trans e1, (G.cell (p := ⟨ba, offa + q * 5 + 2, none⟩) ya).trans e2, (G.cell (p := ⟨ba, offa + q * 5 + 3, none⟩) ya).trans e3, (G.cell (p := ⟨ba, offa + q * 5 + 4, none⟩) ya).trans e4, (G.cell (p := ⟨bq, offq + q * 5 + 1, none⟩) yq).trans d1, (G.cell (p := ⟨bq, offq + q * 5 + 2, none⟩) yq).trans d2, (G.cell (p := ⟨bq, offq + q * 5 + 3, none⟩) yq).trans d3, (G.cell (p := ⟨bq, offq + q * 5 + 4, none⟩) yq).trans d4⟩
          go_upto_region 9 with fail
          clear kA kB hR
          go_cut [10, 11] from 59 to 77 (fun p o wx => ∃ g, p = .pointer (some ⟨g, 0, none⟩) ∧ o = .bool (rsO R) ∧ Below w2.heap.size w2 wx ∧ w2.heap.size ≤ g ∧ g < wx.heap.size ∧ wx.cell? ⟨g, 0, none⟩ = some (.int .i64 (rsK R)) ∧ wx.cell? ⟨g, 1, none⟩ = some (.string (rsT R)))
          case first =>
            go_region_held3 (fun w' => w'.cell? ⟨w.heap.size, 0, none⟩ = some (.slice (some ⟨ba, offa, none⟩) ps.length cA) ∧ w'.cell? ⟨w.heap.size + 1, 0, none⟩ = some (.slice (some ⟨bq, offq, none⟩) qs.length cB) ∧ w'.cell? ⟨ba, offa + q * 5 + 1, none⟩ = some (.int .i64 xk) ∧ w'.cell? ⟨ba, offa + q * 5 + 2, none⟩ = some (.string xn) ∧ w'.cell? ⟨ba, offa + q * 5 + 3, none⟩ = some (.slice X1 xm xc) ∧ w'.cell? ⟨ba, offa + q * 5 + 4, none⟩ = some (.slice X2 xm2 xc2) ∧ w'.cell? ⟨bq, offq + q * 5 + 1, none⟩ = some (.int .i64 yk) ∧ w'.cell? ⟨bq, offq + q * 5 + 2, none⟩ = some (.string yn) ∧ w'.cell? ⟨bq, offq + q * 5 + 3, none⟩ = some (.slice Y1 ym yc) ∧ w'.cell? ⟨bq, offq + q * 5 + 4, none⟩ = some (.slice Y2 ym2 yc2))
              (first | exact KEEP _ K0 | exact KEEP _ K1 | exact KEEP _ B5 | exact KEEP _ (B5.alloc B5.size _) | exact KEEP _ ((B5.setCell (by first | exact Nat.le_refl _ | exact K0.size | exact B5.size | (simp; done)) _).setCell (by first | exact Nat.le_refl _ | exact K0.size | exact B5.size | (simp; done)) _) | exact KEEP _ (((B5.alloc B5.size _).setCell (by first | exact Nat.le_refl _ | exact K0.size | exact B5.size | (simp; done)) _).setCell (by first | exact Nat.le_refl _ | exact K0.size | exact B5.size | (simp; done)) _) | (trace_state; fail))
              (first | (go_at_call 35; (first | (with_reducible refine (HX.out _ K0).mono ?_) | (with_reducible refine (HX.out _ K1).mono ?_)); rintro e w5 ⟨rfl, hb5⟩; have B5 : Below w2.heap.size w2 w5 := (by first | exact K0.trans (hb5.mono K0.size) | exact K1.trans (hb5.mono K1.size)); (first | (have bG : Box w5 w2.heap.size 34 [.int .i64 0, .string ⟨#[]⟩] := Box.call (w := (w2.alloc (.cells #[.int .i64 0, .string ⟨#[]⟩] 34)).drew) (Box.new w2 34 [.int .i64 0, .string ⟨#[]⟩]) hb5; have j5 := bG.cell; have l5 := bG.frozen; have z5 := bG.lt) | skip)))
            all_goals
              go_wp2_with fail
              go_meet
              first | exact ⟨_, rfl, rfl, recEnd B5 bG (by first | exact Nat.le_refl _ | exact K0.size | exact B5.size | (simp; done))⟩ | exact ⟨_, rfl, rfl, recEnd2 B5⟩
          case rest =>
            obtain ⟨g, rfl, rfl, B1, hg, hgl, m0, m1⟩ := hcut
            obtain ⟨W1, hW1⟩ : ∃ W1, W1 = wc := ⟨_, rfl⟩
            rw [← hW1] at B1 hgl m0 m1 ⊢
            have hb6 := hb'.trans (B1.mono hb'.size)
            replace bA := bA.call B1
            replace bB := bB.call B1
            replace bC := bC.call B1
            clear hW1 KEEP f1 f2 e0 e1 e2 e3 e4 d0 d1 d2 d3 d4 K0 K1 HX
            have j5 := bC.cell
            have l5 := bC.frozen
            cases hO : rsO R
            · have HN := Lib.hid (show firstUp FF (q + 1) = none by rw [HVV.out]; exact rsO_no hO)
              clear hO
              go_wp2
              go_roundw
              case rel => exact ⟨q + 1, by omega, by go_num, HN.out, hb6, bA, bB, bC⟩
              case measure => simp [intOf]; omega
            · have HN := Lib.hid (show fnWhy ⟨ps, res, aa⟩ ⟨qs, res', bb⟩ t = R by
                rw [HV.out]
                cases R with
                | none => cases hO
                | some r => rw [firstUp_hit HVV.out hlt]; rfl)
              go_wp2
              exact bodyPost_ret (v := .tuple #[.agg #[.int .i64 (rsK R), .string (rsT R)], .bool true]) (by simp [results, Tryz.results39, go_sem, j5]) rfl ⟨by rw [HN.out, retR_eq, hO], (hb6.setCell (by simp <;> omega) _).setCell (by simp <;> omega) _⟩
      · obtain rfl : q = ps.length := by omega
        have hra := HFX.out.1.res
        have hrb := HFX.out.2.res
        obtain ⟨R, hR⟩ : ∃ R, whyN 4 res res' (t ++ ⟨#[45, 62]⟩) = R := ⟨_, rfl⟩
        have HX := Lib.hid (HIH.out res res' (t ++ ⟨#[45, 62]⟩) [.int .i64 k, .string n, .slice A1 m1 c1, .slice A2 m2 c2] [.int .i64 k', .string n', .slice A1' m1' c1', .slice A2' m2' c2'] wr hra.1 hra.2 hrb.2 (by rw [ByteArray.size_append]; show t.size + 2 + 20 * 4 ≤ 1000000; omega) (HCC.out.1 _ _ HCC.out.2 hb) (HR.out.1.below hb) (HR.out.2.below hb))
        simp only [retR_eq] at HX
        rw [hR] at HX HV
        rw [HNO.out] at HV
        clear hra hrb hR
        have a1 : ¬ 9223372036854775807 < t.size + 2 := by omega
        have hnl : ¬ (ps.length : Int) < (qs.length : Int) := by have := HLX.out; omega
        go_wp2_with fail
        refine HX.out.mono ?_
        rintro e w5 ⟨rfl, hb5⟩
        have hb6 := hb.trans (hb5.mono hb.size)
        replace bA := bA.call hb5
        replace bB := bB.call hb5
        replace bC := bC.call hb5
        clear kA kB hb5 hb
        go_upto_region 13 with fail
        obtain ⟨w6, hw6⟩ : ∃ w6, w6 = w5.alloc (.cells #[.int .i64 (rsK R), .string (rsT R)] 34) := ⟨_, rfl⟩
        rw [← hw6]
        have bE : Box w6 w5.heap.size 34 [.int .i64 (rsK R), .string (rsT R)] := by rw [hw6]; exact Box.new w5 _ _
        have b56 : Below w5.heap.size w5 w6 := by rw [hw6]; exact (Below.refl _ _).alloc (Nat.le_refl _) _
        have hb7 := hb6.trans (b56.mono hb6.size)
        replace bA := bA.call b56
        replace bB := bB.call b56
        replace bC := bC.call b56
        have kA := bA.cell
        have kB := bB.cell
        have j5 := bC.cell
        have l5 := bC.frozen
        have kE := bE.cell
        obtain ⟨gE, hgE⟩ : ∃ gE, w5.heap.size = gE := ⟨_, rfl⟩
        rw [hgE] at kE ⊢
        clear hw6 b56 bE hb6
        cases hO : rsO R
        · have HV1 := Lib.hid (show fnWhy ⟨ps, res, aa⟩ ⟨qs, res', bb⟩ t = asyR aa bb t by rw [HV.out, rsO_no hO]; rfl)
          clear hO kE
          cases aa
          · have HV2 := Lib.hid (show fnWhy ⟨ps, res, false⟩ ⟨qs, res', bb⟩ t = none by rw [HV1.out]; rfl)
            go_wp2
            exact bodyPost_ret (v := .tuple #[.agg #[.int .i64 0, .string ⟨#[]⟩], .bool false]) (by simp [results, Tryz.results39, go_sem, j5]) rfl ⟨by rw [HV2.out]; rfl, (hb7.setCell (by simp <;> omega) _).setCell (by simp <;> omega) _⟩
          · cases bb
            · have HV2 := Lib.hid (show fnWhy ⟨ps, res, true⟩ ⟨qs, res', false⟩ t = some (8, t) by rw [HV1.out]; rfl)
              go_wp2_with fail
              refine (l08No_s 8 _ _).mono ?_
              rintro e w8 ⟨rfl, hb8⟩
              have hb9 := hb7.trans (hb8.mono hb7.size)
              replace bC := bC.call hb8
              clear j5 l5 kA kB
              have j5 := bC.cell
              have l5 := bC.frozen
              go_wp2
              exact bodyPost_ret (v := .tuple #[.agg #[.int .i64 8, .string t], .bool true]) (by simp [results, Tryz.results39, go_sem, j5]) rfl ⟨by rw [HV2.out]; rfl, (hb9.setCell (by simp <;> omega) _).setCell (by simp <;> omega) _⟩
            · have HV2 := Lib.hid (show fnWhy ⟨ps, res, true⟩ ⟨qs, res', true⟩ t = none by rw [HV1.out]; rfl)
              go_wp2
              exact bodyPost_ret (v := .tuple #[.agg #[.int .i64 0, .string ⟨#[]⟩], .bool false]) (by simp [results, Tryz.results39, go_sem, j5]) rfl ⟨by rw [HV2.out]; rfl, (hb7.setCell (by simp <;> omega) _).setCell (by simp <;> omega) _⟩
        · have HN := Lib.hid (show fnWhy ⟨ps, res, aa⟩ ⟨qs, res', bb⟩ t = R by
            rw [HV.out]
            cases R with
            | none => cases hO
            | some r => rfl)
          go_wp2
          exact bodyPost_ret (v := .tuple #[.agg #[.int .i64 (rsK R), .string (rsT R)], .bool true]) (by simp [results, Tryz.results39, go_sem, j5]) rfl ⟨by rw [HN.out, retR_eq, hO], (hb7.setCell (by simp <;> omega) _).setCell (by simp <;> omega) _⟩
  · have g1 : ((ps.length : Int) != (qs.length : Int)) = true := by rw [bne_iff_ne]; omega
    have HV := Lib.hid (show fnWhy ⟨ps, res, aa⟩ ⟨qs, res', bb⟩ t = some (7, t) from if_neg hlen)
    clear hlen
    have j5 := bC.cell
    have l5 := bC.frozen
    go_enter Tryz.func39, Tryz.ntmps39
    go_upto_region 1 with fail
    rw [← hw0]
    clear hw0
    go_wp2_with fail
    refine (l08No_s 7 _ _).mono ?_
    rintro e w3 ⟨rfl, hb3⟩
    have hb4 := B0.trans (hb3.mono B0.size)
    replace bC := bC.call hb3
    clear j5 l5 kA kB
    have j5 := bC.cell
    have l5 := bC.frozen
    go_wp2
    exact bodyPost_ret (v := .tuple #[.agg #[.int .i64 7, .string t], .bool true]) (by simp [results, Tryz.results39, go_sem, j5]) rfl ⟨by rw [HV.out]; rfl, (hb4.setCell (by simp <;> omega) _).setCell (by simp <;> omega) _⟩
end Go.Proofs.YtoioljkhinodaaaGreatDoor
namespace Go.Proofs.YtoioljkhinodaaaGreatDoor
open Go.RowKit Go.Shelf

set_option maxHeartbeats 4000000 in
set_option maxRecDepth 20000 in
theorem fnWhy_i (C : World → Prop) (hC : ∀ w w', C w → Below w.heap.size w w' → C w') (ih : WhyAt 32 C 4) (a b : Fn) (t : ByteArray) (cs cs' : List Value) (w : World) (hcw : C w) (hx : fnOk a = true) (hy : fnOk b = true) (ht : t.size ≤ 1000) (hcs : D.Ats w anyB a.ds cs) (hcs' : D.Ats w anyB b.ds cs') :
    Calls Tryz.prog 42 #[.agg cs.toArray, .agg cs'.toArray, .string t] w fun e w' => e = .returned (retR (fnWhy a b t)) ∧ Below w.heap.size w w' := by
  obtain ⟨ps, res, aa⟩ := a
  obtain ⟨qs, res', bb⟩ := b
  have fx := FnFit.of hx
  have fy := FnFit.of hy
  obtain ⟨PA, cA, k, n, A1, m1, c1, A2, m2, c2, rfl, hp, hr⟩ := Fn.open_ hcs
  obtain ⟨PB, cB, k', n', A1', m1', c1', A2', m2', c2', rfl, hq, hr'⟩ := Fn.open_ hcs'
  simp only at hp hr hq hr'
  obtain ⟨w0, hw0, B0, bA, bB, bC⟩ := blocks3 w 45 45 34 [.slice PA ps.length cA, .int .i64 k, .string n, .slice A1 m1 c1, .slice A2 m2 c2, .bool aa] [.slice PB qs.length cB, .int .i64 k', .string n', .slice A1' m1' c1', .slice A2' m2' c2', .bool bb] [.int .i64 0, .string ⟨#[]⟩]
  have HL := Lib.hid (And.intro hp hq)
  have HR := Lib.hid (And.intro hr hr')
  have HIH := Lib.hid ih
  have HFX := Lib.hid (And.intro fx fy)
  have HCC := Lib.hid (And.intro hC hcw)
  have le6 := fx.many
  clear hcs hcs' hx hy fx fy hp hr hq hr' ih hC hcw
  change Calls Tryz.prog 42 #[.agg #[.slice PA ps.length cA, .int .i64 k, .string n, .slice A1 m1 c1, .slice A2 m2 c2, .bool aa], .agg #[.slice PB qs.length cB, .int .i64 k', .string n', .slice A1' m1' c1', .slice A2' m2' c2', .bool bb], .string t] w _
  have kA := bA.cell
  have kB := bB.cell
  by_cases hlen : ps.length = qs.length
  · have g1 : ((ps.length : Int) != (qs.length : Int)) = false := by simp [hlen]
    have HV := Lib.hid (show fnWhy ⟨ps, res, aa⟩ ⟨qs, res', bb⟩ t = orR (firstUp (parR ps qs t) ps.length) (orR (whyN 4 res res' (t ++ ⟨#[45, 62]⟩)) (asyR aa bb t)) from if_pos hlen)
    have HLX := Lib.hid hlen
    clear hlen
    obtain ⟨FF, hFF⟩ : ∃ FF, parR ps qs t = FF := ⟨_, rfl⟩
    have HFF := Lib.hid hFF
    rw [hFF] at HV
    clear hFF
    go_enter Tryz.func42, Tryz.ntmps42
    go_upto_region 1 with fail
    rw [← hw0]
    clear hw0
    go_wp2
    go_loopw [8, 9, 10, 11, 12, 29] (fun _ _ _ _ _ i wr => ∃ q : Nat, q ≤ ps.length ∧ i = .int .i64 q ∧ firstUp FF q = none ∧ Below w.heap.size w wr ∧ Box wr w.heap.size 45 [.slice PA ps.length cA, .int .i64 k, .string n, .slice A1 m1 c1, .slice A2 m2 c2, .bool aa] ∧ Box wr (w.heap.size + 1) 45 [.slice PB qs.length cB, .int .i64 k', .string n', .slice A1' m1' c1', .slice A2' m2' c2', .bool bb] ∧ Box wr (w.heap.size + 2) 34 [.int .i64 0, .string ⟨#[]⟩]) (fun _ _ _ _ _ i _ => ps.length - (intOf i).toNat)
    case atStart => exact ⟨0, Nat.zero_le _, rfl, rfl, B0, bA, bB, bC⟩
    clear bA bB bC B0 kA kB
    case round =>
      obtain ⟨q, hq, rfl, hno, hb, bA, bB, bC⟩ := hrel
      have HNO := Lib.hid hno
      clear hno
      have kA := bA.cell
      have kB := bB.cell
      by_cases hlt : q < ps.length
      · have hk0 : (0 : Int) ≤ (q : Int) := by omega
        have hk1 : (q : Int) < (ps.length : Int) := by omega
        have hlen := HLX.out
        have hk2 : (q : Int) < (qs.length : Int) := by omega
        have hk3 : (q : Int) ≤ (qs.length : Int) := by omega
        obtain ⟨x, ex⟩ : ∃ x, ps[q]? = some x := ⟨ps[q], List.getElem?_eq_getElem hlt⟩
        obtain ⟨y, ey⟩ : ∃ y, qs[q]? = some y := ⟨qs[q]'(by omega), List.getElem?_eq_getElem (by omega)⟩
        obtain ⟨ba, offa, u0, u1, u2, u3, u4, e, -, ya, hat, e0, e1, e2, e3, e4⟩ := rows_at5 Pa.len (HL.out.1.below hb) ex
        subst e
        obtain ⟨bq, offq, v0, v1, v2, v3, v4, e, -, yq, hat', d0, d1, d2, d3, d4⟩ := rows_at5 Pa.len (HL.out.2.below hb) ey
        subst e
        obtain ⟨xk, xn, X1, xm, xc, X2, xm2, xc2, exx, -, hatx⟩ := Pa.open_ hat
        obtain ⟨yk, yn, Y1, ym, yc, Y2, ym2, yc2, eyy, -, haty⟩ := Pa.open_ hat'
        simp only [List.cons.injEq, and_true] at exx eyy
        obtain ⟨rfl, rfl, rfl, rfl, rfl⟩ := exx
        obtain ⟨rfl, rfl, rfl, rfl, rfl⟩ := eyy
        have hxp := HFX.out.1.par x (List.mem_of_getElem? ex)
        have hyp := HFX.out.2.par y (List.mem_of_getElem? ey)
        have hy12 := hyp.1
        have HE := Lib.hid (And.intro ex ey)
        have HXY := Lib.hid (And.intro hxp.2 hyp.2)
        have HAT := Lib.hid (And.intro hatx haty)
        have a1 : ¬ 9223372036854775807 < t.size + 1 := by omega
        have a2 : ¬ 9223372036854775807 < t.size + 1 + y.name.size := by omega
        have a3 : ¬ 9223372036854775807 < t.size + 1 + y.name.size + 1 := by omega
        have hbn : (x.name.toList != y.name.toList) = !(x.name.toList == y.name.toList) := rfl
        clear ex ey hat hat' hatx haty hxp hyp hlen
        go_upto_region 6 with fail
        obtain ⟨wp, hwp⟩ : ∃ wp, wp = wr.alloc (.cells #[.string y.name, .int .i64 yk, .string yn, .slice Y1 ym yc, .slice Y2 ym2 yc2] 96) := ⟨_, rfl⟩
        rw [← hwp]
        have bP : Box wp wr.heap.size 96 [.string y.name, .int .i64 yk, .string yn, .slice Y1 ym yc, .slice Y2 ym2 yc2] := by rw [hwp]; exact Box.new wr _ _
        have hbp : Below wr.heap.size wr wp := by rw [hwp]; exact (Below.refl _ _).alloc (Nat.le_refl _) _
        obtain ⟨gp, hgp⟩ : ∃ gp, wr.heap.size = gp := ⟨_, rfl⟩
        rw [hgp] at bP ⊢
        have kP := bP.cell
        have hb0 := hb.trans (hbp.mono hb.size)
        have kA' := (bA.call hbp).cell
        have e0' := (hbp.cell (p := ⟨ba, offa + q * 5, none⟩) ya).trans e0
        clear hwp kA kB
        go_upto_region 7 with fail
        have g1 := cell_regrown (show wp.cell? ⟨w.heap.size, 0, none⟩ = some (.slice (some ⟨ba, offa, none⟩) ps.length cA) from kA' 0)
        have g2 := cell_regrown (show wp.cell? ⟨gp, 0, none⟩ = some (.string y.name) from kP 0)
        have g3 := cell_regrown e0'
        cases heq : (x.name.toList == y.name.toList)
        all_goals
          rw [heq] at hbn
          have HEQ := Lib.hid heq
          first | simp only [Bool.not_false] at hbn | simp only [Bool.not_true] at hbn
          refine wp_region_quiet_below (by kernel_rfl) (by kernel_rfl) ?_
          repeat (first | go_big_quiet_step (fail) | quiet_step (fail))
          refine wpQuiet_nil ?_
          intro w2 hw2
          have hb2p := below_of_regrown hw2
          have bP2 := bP.call hb2p
          have hb2 := hbp.trans (hb2p.mono hbp.size)
          have hb' := hb.trans (hb2.mono hb.size)
          clear hw2 g1 g2 g3 kP kA' e0' hb0 bP hbp hb2p
          replace e0 := (hb2.cell (p := ⟨ba, offa + q * 5, none⟩) ya).trans e0
          replace e1 := (hb2.cell (p := ⟨ba, offa + q * 5 + 1, none⟩) ya).trans e1
          replace e2 := (hb2.cell (p := ⟨ba, offa + q * 5 + 2, none⟩) ya).trans e2
          replace e3 := (hb2.cell (p := ⟨ba, offa + q * 5 + 3, none⟩) ya).trans e3
          replace e4 := (hb2.cell (p := ⟨ba, offa + q * 5 + 4, none⟩) ya).trans e4
          replace d0 := (hb2.cell (p := ⟨bq, offq + q * 5, none⟩) yq).trans d0
          replace d1 := (hb2.cell (p := ⟨bq, offq + q * 5 + 1, none⟩) yq).trans d1
          replace d2 := (hb2.cell (p := ⟨bq, offq + q * 5 + 2, none⟩) yq).trans d2
          replace d3 := (hb2.cell (p := ⟨bq, offq + q * 5 + 3, none⟩) yq).trans d3
          replace d4 := (hb2.cell (p := ⟨bq, offq + q * 5 + 4, none⟩) yq).trans d4
          replace ya : ba < w2.heap.size := Nat.lt_of_lt_of_le ya hb2.size
          replace yq : bq < w2.heap.size := Nat.lt_of_lt_of_le yq hb2.size
          replace bA := bA.call hb2
          replace bB := bB.call hb2
          replace bC := bC.call hb2
          have HAT2 := Lib.hid (And.intro (HAT.out.1.below hb2) (HAT.out.2.below hb2))
          clear hb hb2 HAT
          have kA := bA.cell
          have kB := bB.cell
        · have HVV := Lib.hid (show firstUp FF ps.length = some (7, whT t y.name) from firstUp_hit (q := q + 1) (by rw [firstUp_next HNO.out, ← HFF.out]; exact parR_ne HE.out.1 HE.out.2 HEQ.out) hlt)
          have j5 := bC.cell
          have l5 := bC.frozen
          go_wp2_with fail
          refine (reason_i 7 _ _).mono ?_
          rintro e w3 ⟨rfl, hb3⟩
          have hb4 := hb'.trans (hb3.mono hb'.size)
          replace bC := bC.call hb3
          clear j5 l5 kA kB
          have j5 := bC.cell
          have l5 := bC.frozen
          go_wp2
          exact bodyPost_ret (v := .tuple #[.agg #[.int .i64 7, .string (t ++ ⟨#[40]⟩ ++ y.name ++ ⟨#[41]⟩)], .bool true]) (by simp [results, Tryz.results42, go_sem, j5]) rfl ⟨by rw [HV.out, HVV.out]; rfl, (hb4.setCell (by simp <;> omega) _).setCell (by simp <;> omega) _⟩
        · obtain ⟨R, hR⟩ : ∃ R, whyN 4 y.ty x.ty (whT t y.name) = R := ⟨_, rfl⟩
          have HX := Lib.hid (fun W (G : Below w2.heap.size w2 W) => HIH.out y.ty x.ty (whT t y.name) [.int .i64 yk, .string yn, .slice Y1 ym yc, .slice Y2 ym2 yc2] [.int .i64 xk, .string xn, .slice X1 xm xc, .slice X2 xm2 xc2] W HXY.out.2.1 HXY.out.2.2 HXY.out.1.2 (by unfold whT; rw [ByteArray.size_append, ByteArray.size_append, ByteArray.size_append]; show t.size + 1 + y.name.size + 1 + 20 * 4 ≤ 1000000; omega) (HCC.out.1 _ _ HCC.out.2 (hb'.trans (G.mono hb'.size))) (HAT2.out.2.below G) (HAT2.out.1.below G))
          simp only [retR_eq] at HX
          rw [hR] at HX
          unfold whT at HX
          have HVV := Lib.hid (show firstUp FF (q + 1) = R by rw [firstUp_next HNO.out, ← HFF.out, ← hR]; exact parR_eq HE.out.1 HE.out.2 HEQ.out)
          have zA := bA.lt
          have zB := bB.lt
          have zP := bP2.lt
          have r0 : w2.cell? ⟨gp, 0, none⟩ = some (.string y.name) := bP2.cell 0
          have r1 : w2.cell? ⟨gp, 1, none⟩ = some (.int .i64 yk) := bP2.cell 1
          have r2 : w2.cell? ⟨gp, 2, none⟩ = some (.string yn) := bP2.cell 2
          have r3 : w2.cell? ⟨gp, 3, none⟩ = some (.slice Y1 ym yc) := bP2.cell 3
          have r4 : w2.cell? ⟨gp, 4, none⟩ = some (.slice Y2 ym2 yc2) := bP2.cell 4
          have f1 : w2.cell? ⟨w.heap.size, 0, none⟩ = some (.slice (some ⟨ba, offa, none⟩) ps.length cA) := kA 0
          have f2 : w2.cell? ⟨w.heap.size + 1, 0, none⟩ = some (.slice (some ⟨bq, offq, none⟩) qs.length cB) := kB 0
          have K0 : Below w2.heap.size w2 w2.drew := (Below.refl _ w2).drew
          have K1 : Below w2.heap.size w2 (w2.alloc (.cells #[.int .i64 0, .string ⟨#[]⟩] 34)).drew := ((Below.refl _ w2).alloc (Nat.le_refl _) _).drew
          have KEEP : ∀ W, Below w2.heap.size w2 W → W.cell? ⟨w.heap.size, 0, none⟩ = some (.slice (some ⟨ba, offa, none⟩) ps.length cA) ∧ W.cell? ⟨ba, offa + q * 5 + 1, none⟩ = some (.int .i64 xk) ∧ W.cell? ⟨ba, offa + q * 5 + 2, none⟩ = some (.string xn) ∧ W.cell? ⟨ba, offa + q * 5 + 3, none⟩ = some (.slice X1 xm xc) ∧ W.cell? ⟨ba, offa + q * 5 + 4, none⟩ = some (.slice X2 xm2 xc2) ∧ W.cell? ⟨gp, 1, none⟩ = some (.int .i64 yk) ∧ W.cell? ⟨gp, 2, none⟩ = some (.string yn) ∧ W.cell? ⟨gp, 3, none⟩ = some (.slice Y1 ym yc) ∧ W.cell? ⟨gp, 4, none⟩ = some (.slice Y2 ym2 yc2) := fun W G => ⟨(G.cell (p := ⟨w.heap.size, 0, none⟩) zA).trans f1, (G.cell (p := ⟨ba, offa + q * 5 + 1, none⟩) ya).trans e1, (G.cell (p := ⟨ba, offa + q * 5 + 2, none⟩) ya).trans e2, (G.cell (p := ⟨ba, offa + q * 5 + 3, none⟩) ya).trans e3, (G.cell (p := ⟨ba, offa + q * 5 + 4, none⟩) ya).trans e4, (G.cell (p := ⟨gp, 1, none⟩) zP).trans r1, (G.cell (p := ⟨gp, 2, none⟩) zP).trans r2, (G.cell (p := ⟨gp, 3, none⟩) zP).trans r3, (G.cell (p := ⟨gp, 4, none⟩) zP).trans r4⟩
          go_upto_region 9 with fail
          clear kA kB hR
          go_cut [11, 12] from 53 to 68 (fun p o wx => ∃ g, p = .pointer (some ⟨g, 0, none⟩) ∧ o = .bool (rsO R) ∧ Below w2.heap.size w2 wx ∧ w2.heap.size ≤ g ∧ g < wx.heap.size ∧ wx.cell? ⟨g, 0, none⟩ = some (.int .i64 (rsK R)) ∧ wx.cell? ⟨g, 1, none⟩ = some (.string (rsT R)))
          case first =>
            go_region_held3 (fun w' => w'.cell? ⟨w.heap.size, 0, none⟩ = some (.slice (some ⟨ba, offa, none⟩) ps.length cA) ∧ w'.cell? ⟨ba, offa + q * 5 + 1, none⟩ = some (.int .i64 xk) ∧ w'.cell? ⟨ba, offa + q * 5 + 2, none⟩ = some (.string xn) ∧ w'.cell? ⟨ba, offa + q * 5 + 3, none⟩ = some (.slice X1 xm xc) ∧ w'.cell? ⟨ba, offa + q * 5 + 4, none⟩ = some (.slice X2 xm2 xc2) ∧ w'.cell? ⟨gp, 1, none⟩ = some (.int .i64 yk) ∧ w'.cell? ⟨gp, 2, none⟩ = some (.string yn) ∧ w'.cell? ⟨gp, 3, none⟩ = some (.slice Y1 ym yc) ∧ w'.cell? ⟨gp, 4, none⟩ = some (.slice Y2 ym2 yc2))
              (first | exact KEEP _ K0 | exact KEEP _ K1 | exact KEEP _ B5 | exact KEEP _ (B5.alloc B5.size _) | exact KEEP _ ((B5.setCell (by first | exact Nat.le_refl _ | exact K0.size | exact B5.size | (simp; done)) _).setCell (by first | exact Nat.le_refl _ | exact K0.size | exact B5.size | (simp; done)) _) | exact KEEP _ (((B5.alloc B5.size _).setCell (by first | exact Nat.le_refl _ | exact K0.size | exact B5.size | (simp; done)) _).setCell (by first | exact Nat.le_refl _ | exact K0.size | exact B5.size | (simp; done)) _) | (trace_state; fail))
              (first | (go_at_call 32; (first | (with_reducible refine (HX.out _ K0).mono ?_) | (with_reducible refine (HX.out _ K1).mono ?_)); rintro e w5 ⟨rfl, hb5⟩; have B5 : Below w2.heap.size w2 w5 := (by first | exact K0.trans (hb5.mono K0.size) | exact K1.trans (hb5.mono K1.size)); (first | (have bG : Box w5 w2.heap.size 34 [.int .i64 0, .string ⟨#[]⟩] := Box.call (w := (w2.alloc (.cells #[.int .i64 0, .string ⟨#[]⟩] 34)).drew) (Box.new w2 34 [.int .i64 0, .string ⟨#[]⟩]) hb5; have j5 := bG.cell; have l5 := bG.frozen; have z5 := bG.lt) | skip)))
            all_goals
              go_wp2_with fail
              go_meet
              first | exact ⟨_, rfl, rfl, recEnd B5 bG (by first | exact Nat.le_refl _ | exact K0.size | exact B5.size | (simp; done))⟩ | exact ⟨_, rfl, rfl, recEnd2 B5⟩
          case rest =>
            obtain ⟨g, rfl, rfl, B1, hg, hgl, m0, m1⟩ := hcut
            obtain ⟨W1, hW1⟩ : ∃ W1, W1 = wc := ⟨_, rfl⟩
            rw [← hW1] at B1 hgl m0 m1 ⊢
            have hb6 := hb'.trans (B1.mono hb'.size)
            replace bA := bA.call B1
            replace bB := bB.call B1
            replace bC := bC.call B1
            clear hW1 KEEP f1 f2 e0 e1 e2 e3 e4 d0 d1 d2 d3 d4 K0 K1 HX r0 r1 r2 r3 r4
            have j5 := bC.cell
            have l5 := bC.frozen
            cases hO : rsO R
            · have HN := Lib.hid (show firstUp FF (q + 1) = none by rw [HVV.out]; exact rsO_no hO)
              clear hO
              go_wp2
              go_roundw
              case rel => exact ⟨q + 1, by omega, by go_num, HN.out, hb6, bA, bB, bC⟩
              case measure => simp [intOf]; omega
            · have HN := Lib.hid (show fnWhy ⟨ps, res, aa⟩ ⟨qs, res', bb⟩ t = R by
                rw [HV.out]
                cases R with
                | none => cases hO
                | some r => rw [firstUp_hit HVV.out hlt]; rfl)
              go_wp2
              exact bodyPost_ret (v := .tuple #[.agg #[.int .i64 (rsK R), .string (rsT R)], .bool true]) (by simp [results, Tryz.results42, go_sem, j5]) rfl ⟨by rw [HN.out, retR_eq, hO], (hb6.setCell (by simp <;> omega) _).setCell (by simp <;> omega) _⟩
      · obtain rfl : q = ps.length := by omega
        have hra := HFX.out.1.res
        have hrb := HFX.out.2.res
        obtain ⟨R, hR⟩ : ∃ R, whyN 4 res res' (t ++ ⟨#[45, 62]⟩) = R := ⟨_, rfl⟩
        have HX := Lib.hid (HIH.out res res' (t ++ ⟨#[45, 62]⟩) [.int .i64 k, .string n, .slice A1 m1 c1, .slice A2 m2 c2] [.int .i64 k', .string n', .slice A1' m1' c1', .slice A2' m2' c2'] wr hra.1 hra.2 hrb.2 (by rw [ByteArray.size_append]; show t.size + 2 + 20 * 4 ≤ 1000000; omega) (HCC.out.1 _ _ HCC.out.2 hb) (HR.out.1.below hb) (HR.out.2.below hb))
        simp only [retR_eq] at HX
        rw [hR] at HX HV
        rw [HNO.out] at HV
        clear hra hrb hR
        have a1 : ¬ 9223372036854775807 < t.size + 2 := by omega
        have hnl : ¬ (ps.length : Int) < (qs.length : Int) := by have := HLX.out; omega
        go_wp2_with fail
        refine HX.out.mono ?_
        rintro e w5 ⟨rfl, hb5⟩
        have hb6 := hb.trans (hb5.mono hb.size)
        replace bA := bA.call hb5
        replace bB := bB.call hb5
        replace bC := bC.call hb5
        clear kA kB hb5 hb
        go_upto_region 14 with fail
        obtain ⟨w6, hw6⟩ : ∃ w6, w6 = w5.alloc (.cells #[.int .i64 (rsK R), .string (rsT R)] 34) := ⟨_, rfl⟩
        rw [← hw6]
        have bE : Box w6 w5.heap.size 34 [.int .i64 (rsK R), .string (rsT R)] := by rw [hw6]; exact Box.new w5 _ _
        have b56 : Below w5.heap.size w5 w6 := by rw [hw6]; exact (Below.refl _ _).alloc (Nat.le_refl _) _
        have hb7 := hb6.trans (b56.mono hb6.size)
        replace bA := bA.call b56
        replace bB := bB.call b56
        replace bC := bC.call b56
        have kA := bA.cell
        have kB := bB.cell
        have j5 := bC.cell
        have l5 := bC.frozen
        have kE := bE.cell
        obtain ⟨gE, hgE⟩ : ∃ gE, w5.heap.size = gE := ⟨_, rfl⟩
        rw [hgE] at kE ⊢
        clear hw6 b56 bE hb6
        cases hO : rsO R
        · have HV1 := Lib.hid (show fnWhy ⟨ps, res, aa⟩ ⟨qs, res', bb⟩ t = asyR aa bb t by rw [HV.out, rsO_no hO]; rfl)
          clear hO kE
          cases aa
          · have HV2 := Lib.hid (show fnWhy ⟨ps, res, false⟩ ⟨qs, res', bb⟩ t = none by rw [HV1.out]; rfl)
            go_wp2_with fail
            refine (none_i _).mono ?_
            rintro e w8 ⟨rfl, hb8⟩
            have hb9 := hb7.trans (hb8.mono hb7.size)
            replace bC := bC.call hb8
            clear j5 l5 kA kB
            have j5 := bC.cell
            have l5 := bC.frozen
            go_wp2
            exact bodyPost_ret (v := .tuple #[.agg #[.int .i64 0, .string ⟨#[]⟩], .bool false]) (by simp [results, Tryz.results42, go_sem, j5]) rfl ⟨by rw [HV2.out]; rfl, (hb9.setCell (by simp <;> omega) _).setCell (by simp <;> omega) _⟩
          · cases bb
            · have HV2 := Lib.hid (show fnWhy ⟨ps, res, true⟩ ⟨qs, res', false⟩ t = some (8, t) by rw [HV1.out]; rfl)
              go_wp2_with fail
              refine (reason_i 8 _ _).mono ?_
              rintro e w8 ⟨rfl, hb8⟩
              have hb9 := hb7.trans (hb8.mono hb7.size)
              replace bC := bC.call hb8
              clear j5 l5 kA kB
              have j5 := bC.cell
              have l5 := bC.frozen
              go_wp2
              exact bodyPost_ret (v := .tuple #[.agg #[.int .i64 8, .string t], .bool true]) (by simp [results, Tryz.results42, go_sem, j5]) rfl ⟨by rw [HV2.out]; rfl, (hb9.setCell (by simp <;> omega) _).setCell (by simp <;> omega) _⟩
            · have HV2 := Lib.hid (show fnWhy ⟨ps, res, true⟩ ⟨qs, res', true⟩ t = none by rw [HV1.out]; rfl)
              go_wp2_with fail
              refine (none_i _).mono ?_
              rintro e w8 ⟨rfl, hb8⟩
              have hb9 := hb7.trans (hb8.mono hb7.size)
              replace bC := bC.call hb8
              clear j5 l5 kA kB
              have j5 := bC.cell
              have l5 := bC.frozen
              go_wp2
              exact bodyPost_ret (v := .tuple #[.agg #[.int .i64 0, .string ⟨#[]⟩], .bool false]) (by simp [results, Tryz.results42, go_sem, j5]) rfl ⟨by rw [HV2.out]; rfl, (hb9.setCell (by simp <;> omega) _).setCell (by simp <;> omega) _⟩
        · have HN := Lib.hid (show fnWhy ⟨ps, res, aa⟩ ⟨qs, res', bb⟩ t = R by
            rw [HV.out]
            cases R with
            | none => cases hO
            | some r => rfl)
          go_wp2
          exact bodyPost_ret (v := .tuple #[.agg #[.int .i64 (rsK R), .string (rsT R)], .bool true]) (by simp [results, Tryz.results42, go_sem, j5]) rfl ⟨by rw [HN.out, retR_eq, hO], (hb7.setCell (by simp <;> omega) _).setCell (by simp <;> omega) _⟩
  · have g1 : ((ps.length : Int) != (qs.length : Int)) = true := by rw [bne_iff_ne]; omega
    have HV := Lib.hid (show fnWhy ⟨ps, res, aa⟩ ⟨qs, res', bb⟩ t = some (7, t) from if_neg hlen)
    clear hlen
    have j5 := bC.cell
    have l5 := bC.frozen
    go_enter Tryz.func42, Tryz.ntmps42
    go_upto_region 1 with fail
    rw [← hw0]
    clear hw0
    go_wp2_with fail
    refine (reason_i 7 _ _).mono ?_
    rintro e w3 ⟨rfl, hb3⟩
    have hb4 := B0.trans (hb3.mono B0.size)
    replace bC := bC.call hb3
    clear j5 l5 kA kB
    have j5 := bC.cell
    have l5 := bC.frozen
    go_wp2
    exact bodyPost_ret (v := .tuple #[.agg #[.int .i64 7, .string t], .bool true]) (by simp [results, Tryz.results42, go_sem, j5]) rfl ⟨by rw [HV.out]; rfl, (hb4.setCell (by simp <;> omega) _).setCell (by simp <;> omega) _⟩
end Go.Proofs.YtoioljkhinodaaaGreatDoor
namespace Go.Proofs.YtoioljkhinodaaaGreatDoor
open Go.RowKit Go.Shelf

def srvB (x y : Fn) : Bool := fnOk x && (fnOk y && !rsO (fnWhy x y ⟨#[]⟩))
set_option maxHeartbeats 4000000 in
set_option maxRecDepth 20000 in
theorem funcServes_s (x y : Fn) (cs cs' : List Value) (w : World) (_hp : D.totals x.ds ≤ 1048576) (_hp' : D.totals y.ds ≤ 1048576) (hcs : D.Ats w anyB x.ds cs) (hcs' : D.Ats w anyB y.ds cs') :
    Calls Tryz.prog 16 #[.agg cs.toArray, .agg cs'.toArray] w fun e w' => e = .returned (.bool (srvB x y)) ∧ Below w.heap.size w w' := by
  obtain ⟨p0, p1, p2, p3, p4, p5, p6, p7, p8, p9, p10, p11, rfl⟩ := Fn.form hcs
  obtain ⟨q0, q1, q2, q3, q4, q5, q6, q7, q8, q9, q10, q11, rfl⟩ := Fn.form hcs'
  have HOX := Lib.hid (fun W h => funcOk_s x [.slice p0 p1 p2, .int .i64 p3, .string p4, .slice p5 p6 p7, .slice p8 p9 p10, .bool p11] W h)
  have HOY := Lib.hid (fun W h => funcOk_s y [.slice q0 q1 q2, .int .i64 q3, .string q4, .slice q5 q6 q7, .slice q8 q9 q10, .bool q11] W h)
  obtain ⟨w0, hw0, B0, bA, bB⟩ := blocks2 w 45 45 [.slice p0 p1 p2, .int .i64 p3, .string p4, .slice p5 p6 p7, .slice p8 p9 p10, .bool p11] [.slice q0 q1 q2, .int .i64 q3, .string q4, .slice q5 q6 q7, .slice q8 q9 q10, .bool q11]
  cases o1 : fnOk x
  · have HXX := Lib.hid (And.intro (hcs.below B0) (hcs'.below B0))
    have HV := Lib.hid (show srvB x y = false by unfold srvB; rw [o1]; simp)
    rw [o1] at HOX
    clear hcs hcs' o1
    change Calls Tryz.prog 16 #[.agg #[.slice p0 p1 p2, .int .i64 p3, .string p4, .slice p5 p6 p7, .slice p8 p9 p10, .bool p11], .agg #[.slice q0 q1 q2, .int .i64 q3, .string q4, .slice q5 q6 q7, .slice q8 q9 q10, .bool q11]] w _
    have k1 := bA.cell
    have k2 := bB.cell
    go_enter Tryz.func16, Tryz.ntmps16
    go_upto_region 1 with fail
    rw [← hw0]
    clear hw0
    go_wp2_with fail
    refine (HOX.out _ HXX.out.1).mono ?_
    rintro e w1 ⟨rfl, hb1⟩
    have B1 : Below w0.heap.size w0 w1 := hb1
    clear k1 k2
    have bA1 := bA.call hb1
    have bB1 := bB.call hb1
    have k1 := bA1.cell
    have k2 := bB1.cell
    clear k1 k2
    go_wp2
    exact bodyPost_ret (v := .bool false) (by simp [results, Tryz.results16, go_sem]) rfl ⟨by rw [HV.out], B0.trans (B1.mono B0.size)⟩
  · cases o2 : fnOk y
    · have HXX := Lib.hid (And.intro (hcs.below B0) (hcs'.below B0))
      have HV := Lib.hid (show srvB x y = false by unfold srvB; rw [o1, o2]; simp)
      rw [o1] at HOX
      rw [o2] at HOY
      clear hcs hcs' o1 o2
      change Calls Tryz.prog 16 #[.agg #[.slice p0 p1 p2, .int .i64 p3, .string p4, .slice p5 p6 p7, .slice p8 p9 p10, .bool p11], .agg #[.slice q0 q1 q2, .int .i64 q3, .string q4, .slice q5 q6 q7, .slice q8 q9 q10, .bool q11]] w _
      have k1 := bA.cell
      have k2 := bB.cell
      go_enter Tryz.func16, Tryz.ntmps16
      go_upto_region 1 with fail
      rw [← hw0]
      clear hw0
      go_wp2_with fail
      refine (HOX.out _ HXX.out.1).mono ?_
      rintro e w1 ⟨rfl, hb1⟩
      have B1 : Below w0.heap.size w0 w1 := hb1
      clear k1 k2
      have bA1 := bA.call hb1
      have bB1 := bB.call hb1
      have k1 := bA1.cell
      have k2 := bB1.cell
      go_wp2_with fail
      refine (HOY.out _ (HXX.out.2.below B1)).mono ?_
      rintro e w2 ⟨rfl, hb2⟩
      have B2 := B1.trans (hb2.mono B1.size)
      clear k1 k2
      have bA2 := bA1.call hb2
      have bB2 := bB1.call hb2
      have k1 := bA2.cell
      have k2 := bB2.cell
      clear k1 k2
      go_wp2
      exact bodyPost_ret (v := .bool false) (by simp [results, Tryz.results16, go_sem]) rfl ⟨by rw [HV.out], B0.trans (B2.mono B0.size)⟩
    · have HW := Lib.hid (fun W (G : Below w0.heap.size w0 W) => fnWhy_s (fun _ => True) (fun _ _ _ _ => trivial) (whyAt_s (fun _ => True) (fun _ _ _ _ => trivial) 4) x y ⟨#[]⟩ [.slice p0 p1 p2, .int .i64 p3, .string p4, .slice p5 p6 p7, .slice p8 p9 p10, .bool p11] [.slice q0 q1 q2, .int .i64 q3, .string q4, .slice q5 q6 q7, .slice q8 q9 q10, .bool q11] W trivial o1 o2 (by decide) (hcs.below (B0.trans (G.mono B0.size))) (hcs'.below (B0.trans (G.mono B0.size))))
      have HXX := Lib.hid (And.intro (hcs.below B0) (hcs'.below B0))
      have HV := Lib.hid (show srvB x y = (!rsO (fnWhy x y ⟨#[]⟩)) by unfold srvB; rw [o1, o2]; simp)
      rw [o1] at HOX
      rw [o2] at HOY
      obtain ⟨R, hR⟩ : ∃ R, fnWhy x y ⟨#[]⟩ = R := ⟨_, rfl⟩
      rw [hR] at HV HW
      simp only [retR_eq] at HW
      clear hR
      clear hcs hcs' o1 o2
      change Calls Tryz.prog 16 #[.agg #[.slice p0 p1 p2, .int .i64 p3, .string p4, .slice p5 p6 p7, .slice p8 p9 p10, .bool p11], .agg #[.slice q0 q1 q2, .int .i64 q3, .string q4, .slice q5 q6 q7, .slice q8 q9 q10, .bool q11]] w _
      have k1 := bA.cell
      have k2 := bB.cell
      go_enter Tryz.func16, Tryz.ntmps16
      go_upto_region 1 with fail
      rw [← hw0]
      clear hw0
      go_wp2_with fail
      refine (HOX.out _ HXX.out.1).mono ?_
      rintro e w1 ⟨rfl, hb1⟩
      have B1 : Below w0.heap.size w0 w1 := hb1
      clear k1 k2
      have bA1 := bA.call hb1
      have bB1 := bB.call hb1
      have k1 := bA1.cell
      have k2 := bB1.cell
      go_wp2_with fail
      refine (HOY.out _ (HXX.out.2.below B1)).mono ?_
      rintro e w2 ⟨rfl, hb2⟩
      have B2 := B1.trans (hb2.mono B1.size)
      clear k1 k2
      have bA2 := bA1.call hb2
      have bB2 := bB1.call hb2
      have k1 := bA2.cell
      have k2 := bB2.cell
      go_wp2_with fail
      refine (HW.out _ B2).mono ?_
      rintro e w3 ⟨rfl, hb3⟩
      have B3 := B2.trans (hb3.mono B2.size)
      clear k1 k2
      go_wp2
      exact bodyPost_ret (v := .bool (!rsO R)) (by simp [results, Tryz.results16, go_sem]) rfl ⟨by rw [HV.out], (B0.trans (B3.mono B0.size)).alloc (Nat.le_trans B0.size B3.size) _⟩
set_option maxHeartbeats 4000000 in
set_option maxRecDepth 20000 in
theorem funcServes_i (x y : Fn) (cs cs' : List Value) (w : World) (ht : Tab10 w) (hp : D.totals x.ds ≤ 1048576) (hp' : D.totals y.ds ≤ 1048576) (hcs : D.Ats w anyB x.ds cs) (hcs' : D.Ats w anyB y.ds cs') :
    Calls Tryz.prog 18 #[.agg cs.toArray, .agg cs'.toArray] w fun e w' => e = .returned (.bool (srvB x y)) ∧ Below w.heap.size w w' := by
  obtain ⟨p0, p1, p2, p3, p4, p5, p6, p7, p8, p9, p10, p11, rfl⟩ := Fn.form hcs
  obtain ⟨q0, q1, q2, q3, q4, q5, q6, q7, q8, q9, q10, q11, rfl⟩ := Fn.form hcs'
  have HOX := Lib.hid (fun W h => funcOk_i x [.slice p0 p1 p2, .int .i64 p3, .string p4, .slice p5 p6 p7, .slice p8 p9 p10, .bool p11] W h hp)
  have HOY := Lib.hid (fun W h => funcOk_i y [.slice q0 q1 q2, .int .i64 q3, .string q4, .slice q5 q6 q7, .slice q8 q9 q10, .bool q11] W h hp')
  obtain ⟨w0, hw0, B0, bA, bB⟩ := blocks2 w 45 45 [.slice p0 p1 p2, .int .i64 p3, .string p4, .slice p5 p6 p7, .slice p8 p9 p10, .bool p11] [.slice q0 q1 q2, .int .i64 q3, .string q4, .slice q5 q6 q7, .slice q8 q9 q10, .bool q11]
  cases o1 : fnOk x
  · have HXX := Lib.hid (And.intro (hcs.below B0) (hcs'.below B0))
    have HV := Lib.hid (show srvB x y = false by unfold srvB; rw [o1]; simp)
    rw [o1] at HOX
    clear hcs hcs' o1 hp hp' ht
    change Calls Tryz.prog 18 #[.agg #[.slice p0 p1 p2, .int .i64 p3, .string p4, .slice p5 p6 p7, .slice p8 p9 p10, .bool p11], .agg #[.slice q0 q1 q2, .int .i64 q3, .string q4, .slice q5 q6 q7, .slice q8 q9 q10, .bool q11]] w _
    have k1 := bA.cell
    have k2 := bB.cell
    go_enter Tryz.func18, Tryz.ntmps18
    go_upto_region 1 with fail
    rw [← hw0]
    clear hw0
    go_wp2_with fail
    refine (HOX.out _ HXX.out.1).mono ?_
    rintro e w1 ⟨rfl, hb1⟩
    have B1 : Below w0.heap.size w0 w1 := hb1
    clear k1 k2
    have bA1 := bA.call hb1
    have bB1 := bB.call hb1
    have k1 := bA1.cell
    have k2 := bB1.cell
    clear k1 k2
    go_wp2
    exact bodyPost_ret (v := .bool false) (by simp [results, Tryz.results18, go_sem]) rfl ⟨by rw [HV.out], B0.trans (B1.mono B0.size)⟩
  · cases o2 : fnOk y
    · have HXX := Lib.hid (And.intro (hcs.below B0) (hcs'.below B0))
      have HV := Lib.hid (show srvB x y = false by unfold srvB; rw [o1, o2]; simp)
      rw [o1] at HOX
      rw [o2] at HOY
      clear hcs hcs' o1 o2 hp hp' ht
      change Calls Tryz.prog 18 #[.agg #[.slice p0 p1 p2, .int .i64 p3, .string p4, .slice p5 p6 p7, .slice p8 p9 p10, .bool p11], .agg #[.slice q0 q1 q2, .int .i64 q3, .string q4, .slice q5 q6 q7, .slice q8 q9 q10, .bool q11]] w _
      have k1 := bA.cell
      have k2 := bB.cell
      go_enter Tryz.func18, Tryz.ntmps18
      go_upto_region 1 with fail
      rw [← hw0]
      clear hw0
      go_wp2_with fail
      refine (HOX.out _ HXX.out.1).mono ?_
      rintro e w1 ⟨rfl, hb1⟩
      have B1 : Below w0.heap.size w0 w1 := hb1
      clear k1 k2
      have bA1 := bA.call hb1
      have bB1 := bB.call hb1
      have k1 := bA1.cell
      have k2 := bB1.cell
      go_wp2_with fail
      refine (HOY.out _ (HXX.out.2.below B1)).mono ?_
      rintro e w2 ⟨rfl, hb2⟩
      have B2 := B1.trans (hb2.mono B1.size)
      clear k1 k2
      have bA2 := bA1.call hb2
      have bB2 := bB1.call hb2
      have k1 := bA2.cell
      have k2 := bB2.cell
      clear k1 k2
      go_wp2
      exact bodyPost_ret (v := .bool false) (by simp [results, Tryz.results18, go_sem]) rfl ⟨by rw [HV.out], B0.trans (B2.mono B0.size)⟩
    · have HW := Lib.hid (fun W (G : Below w0.heap.size w0 W) => fnWhy_i Tab10 (fun _ _ h hb => h.below hb) (whyAt_i Tab10 (fun _ _ h hb => h.below hb) (fun _ h => h) 4) x y ⟨#[]⟩ [.slice p0 p1 p2, .int .i64 p3, .string p4, .slice p5 p6 p7, .slice p8 p9 p10, .bool p11] [.slice q0 q1 q2, .int .i64 q3, .string q4, .slice q5 q6 q7, .slice q8 q9 q10, .bool q11] W ((ht.below B0).below G) o1 o2 (by decide) (hcs.below (B0.trans (G.mono B0.size))) (hcs'.below (B0.trans (G.mono B0.size))))
      have HXX := Lib.hid (And.intro (hcs.below B0) (hcs'.below B0))
      have HV := Lib.hid (show srvB x y = (!rsO (fnWhy x y ⟨#[]⟩)) by unfold srvB; rw [o1, o2]; simp)
      rw [o1] at HOX
      rw [o2] at HOY
      obtain ⟨R, hR⟩ : ∃ R, fnWhy x y ⟨#[]⟩ = R := ⟨_, rfl⟩
      rw [hR] at HV HW
      simp only [retR_eq] at HW
      clear hR
      clear hcs hcs' o1 o2 hp hp' ht
      change Calls Tryz.prog 18 #[.agg #[.slice p0 p1 p2, .int .i64 p3, .string p4, .slice p5 p6 p7, .slice p8 p9 p10, .bool p11], .agg #[.slice q0 q1 q2, .int .i64 q3, .string q4, .slice q5 q6 q7, .slice q8 q9 q10, .bool q11]] w _
      have k1 := bA.cell
      have k2 := bB.cell
      go_enter Tryz.func18, Tryz.ntmps18
      go_upto_region 1 with fail
      rw [← hw0]
      clear hw0
      go_wp2_with fail
      refine (HOX.out _ HXX.out.1).mono ?_
      rintro e w1 ⟨rfl, hb1⟩
      have B1 : Below w0.heap.size w0 w1 := hb1
      clear k1 k2
      have bA1 := bA.call hb1
      have bB1 := bB.call hb1
      have k1 := bA1.cell
      have k2 := bB1.cell
      go_wp2_with fail
      refine (HOY.out _ (HXX.out.2.below B1)).mono ?_
      rintro e w2 ⟨rfl, hb2⟩
      have B2 := B1.trans (hb2.mono B1.size)
      clear k1 k2
      have bA2 := bA1.call hb2
      have bB2 := bB1.call hb2
      have k1 := bA2.cell
      have k2 := bB2.cell
      go_wp2_with fail
      refine (HW.out _ B2).mono ?_
      rintro e w3 ⟨rfl, hb3⟩
      have B3 := B2.trans (hb3.mono B2.size)
      clear k1 k2
      go_wp2
      exact bodyPost_ret (v := .bool (!rsO R)) (by simp [results, Tryz.results18, go_sem]) rfl ⟨by rw [HV.out], (B0.trans (B3.mono B0.size)).alloc (Nat.le_trans B0.size B3.size) _⟩
end Go.Proofs.YtoioljkhinodaaaGreatDoor
