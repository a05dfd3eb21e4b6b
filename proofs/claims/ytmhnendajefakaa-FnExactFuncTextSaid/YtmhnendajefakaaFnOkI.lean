/- A function's type is valid: by the program; the reference's FuncOk. -/
import Derived.Test.YtmhnendajefakaaFnOkS
import Derived.Test.YtmhnendajefakaaAppS
namespace Go.Proofs.Ytmhnendajefakaa
open Go.RowKit Go.Shelf

theorem isUnit_c (x : Ty) (cs : List Value) (w : World) (h : D.Ats w anyB x.ds cs) : Calls Try.prog 89 #[.agg cs.toArray] w fun e w' => e = .returned (.bool (isU x)) ∧ Below w.heap.size w w' := isUnit_i x cs w trivial h
set_option maxHeartbeats 4000000 in
set_option maxRecDepth 20000 in
theorem paramsOk_i (ps : List Pa) (B : Option Addr) (d : Nat) (w : World) (hv : D.At w anyB (rows Pa.ds 5 ps) (.slice B ps.length d)) (hpb : ∀ p ∈ ps, p.ty.parts ≤ 2000000) (hlb : ps.length ≤ 1048576) :
    Calls Try.prog 96 #[.slice B ps.length d] w fun e w' => e = .returned (.bool (pasOk ps)) ∧ Below w.heap.size w w' := by
  obtain ⟨-, hn, hc⟩ := rows_bound hv
  unfold maxLen at hc
  have HV := Lib.hid hv
  have HPB := Lib.hid hpb
  clear hv hpb
  go_enter Try.func96, Try.ntmps96
  go_wp2
  go_loopw [3, 5, 9] (fun v _ i wr => ∃ k : Nat, k ≤ ps.length ∧ i = .int .i64 k ∧ wr.ownsRow w.heap.size 9 1 v k (((ps.take k).map Pa.name).map Value.string) ∧ (∃ g c, v = .slice (some ⟨g, 0, none⟩) k c) ∧ NoneTo (fun p => !paOk p) ps k ∧ Below w.heap.size w wr) (fun _ _ i _ => ps.length - (intOf i).toNat)
  case atStart => exact ⟨0, Nat.zero_le _, rfl, World.ownsRow_lit _ _ _ (Nat.le_refl _) (by decide) (by rfl), ⟨_, _, rfl⟩, NoneTo.zero _ _, (Below.refl _ _).alloc (Nat.le_refl _) _⟩
  case round =>
    obtain ⟨k, hk, rfl, hown, ⟨g, cg, rfl⟩, hst, hb⟩ := hrel
    by_cases hlt : k < ps.length
    · obtain ⟨x, hx⟩ : ∃ x, ps[k]? = some x := ⟨ps[k], List.getElem?_eq_getElem hlt⟩
      have hk0 : (0 : Int) ≤ (k : Int) := by omega
      have hk1 : (k : Int) < (ps.length : Int) := by omega
      obtain ⟨b, off, u0, u1, u2, u3, u4, rfl, -, hbl, hat, d0, d1, d2, d3, d4⟩ := rows_at5 Pa.len HV.out hx
      replace d0 := (hb.cell (p := ⟨b, off + k * 5, none⟩) hbl).trans d0
      replace d1 := (hb.cell (p := ⟨b, off + k * 5 + 1, none⟩) hbl).trans d1
      replace d2 := (hb.cell (p := ⟨b, off + k * 5 + 2, none⟩) hbl).trans d2
      replace d3 := (hb.cell (p := ⟨b, off + k * 5 + 3, none⟩) hbl).trans d3
      replace d4 := (hb.cell (p := ⟨b, off + k * 5 + 4, none⟩) hbl).trans d4
      have HN := Lib.hid (And.intro hx hst)
      have hpx := HPB.out x (List.mem_of_getElem? hx)
      obtain ⟨pn, ty⟩ := x
      obtain ⟨v0, v1, v2, v3, v4, v5, v6, v7, e3, hpn, hty⟩ := Pa.open_ hat
      simp only [List.cons.injEq, and_true] at e3
      obtain ⟨rfl, rfl, rfl, rfl, rfl⟩ := e3
      simp only at hpn hty hpx
      have HT := Lib.hid (hty.below hb)
      have HO := Lib.hid hown
      have HNX := Lib.hid (show (ps.take (k + 1)).map Pa.name = (ps.take k).map Pa.name ++ [pn] by rw [List.take_add_one, hx]; simp)
      clear hx hst hat hty hown
      go_wp2_with fail
      refine (nameOk_i pn hpn _).mono ?_
      rintro e w3 ⟨rfl, hb3⟩
      obtain ⟨Bx3, bP⟩ := box1 (cA := [_, _, _, _, _]) hb3
      have B3 := hb.trans (Bx3.mono hb.size)
      clear hb3 d0 d1 d2 d3 d4
      have c := bP.cell
      cases h3 : nameOk pn
      · have HB := Lib.hid (show pasOk ps = false by unfold pasOk; rw [any_bad (p := fun p => !paOk p) HN.out.1 (by simp [paOk, h3])]; simp)
        clear h3
        go_wp2
        go_ret
        exact ⟨ret_eq (by rw [HB.out]; rfl), B3⟩
      have E3 := Lib.hid h3
      clear h3
      go_wp2_with fail
      refine (typeOk_i ty _ _ (HT.out.below Bx3) hpx).mono ?_
      rintro e w4 ⟨rfl, hb4⟩
      have Bx4 := Bx3.trans (hb4.mono Bx3.size)
      have B4 := hb.trans (Bx4.mono hb.size)
      replace bP := bP.call hb4
      clear c hb4
      have c := bP.cell
      cases h4 : tyOk ty
      · have HB := Lib.hid (show pasOk ps = false by unfold pasOk; rw [any_bad (p := fun p => !paOk p) HN.out.1 (by simp [paOk, h4])]; simp)
        clear h4
        go_wp2
        go_ret
        exact ⟨ret_eq (by rw [HB.out]; rfl), B4⟩
      have E4 := Lib.hid h4
      clear h4
      go_wp2_with fail
      refine (isUnit_c ty _ _ (HT.out.below Bx4)).mono ?_
      rintro e w5 ⟨rfl, hb5⟩
      have Bx5 := Bx4.trans (hb5.mono Bx4.size)
      have B5 := hb.trans (Bx5.mono hb.size)
      replace bP := bP.call hb5
      clear c hb5
      have c := bP.cell
      cases h5 : isU ty
      case true =>
        have HB := Lib.hid (show pasOk ps = false by unfold pasOk; rw [any_bad (p := fun p => !paOk p) HN.out.1 (by simp [paOk, h5])]; simp)
        clear h5
        go_wp2
        go_ret
        exact ⟨ret_eq (by rw [HB.out]; rfl), B5⟩
      have HG := Lib.hid (HN.out.2.next HN.out.1 (by simp only [paOk, h5, E3.out, E4.out]; rfl))
      have hown5 := own_call HO.out Bx5
      have hl2 : k + 1 ≤ 8796093022208 := by omega
      have hbs := B5.size
      have HBB := Lib.hid B5
      clear h5 hb Bx3 Bx4 Bx5 B3 B4 B5
      go_wp2_with (at_builtin; refine wpList_str hown5 pn (.tmp 28) (.tmp 31) hl2 hbs w5.heap.size rfl ?_; intro v' w' ho' hb')
      have hb6 := HBB.out.trans hb'
      obtain ⟨g', c', rfl, -⟩ := own_form ho' (by omega)
      clear hown5 hb'
      go_wp2
      go_roundw
      case rel => exact ⟨k + 1, by omega, by go_num, by rw [HNX.out]; exact ho', ⟨_, _, rfl⟩, HG.out, hb6⟩
      case measure => simp [intOf]; omega
    · obtain rfl : k = ps.length := by omega
      have HG := Lib.hid hst.end_
      rw [show ps.take ps.length = ps from List.take_of_length_le (by omega)] at hown
      have HO := Lib.hid hown
      clear hst hown
      by_cases h6 : (ps.length : Int) ≤ 6
      · have HD := Lib.hid (distinct_own (ps.map Pa.name) g cg w.heap.size wr (by simpa using HO.out) (by simp; omega))
        have E := Lib.hid (show pasOk ps = nodupS (ps.map Pa.name) by unfold pasOk; rw [HG.out, show decide (ps.length ≤ 6) = true from decide_eq_true (by omega)]; rfl)
        rw [show (ps.map Pa.name).length = ps.length from by simp] at HD
        go_wp2_with fail
        refine HD.out.mono ?_
        rintro e w2 ⟨rfl, hb2⟩
        have B2 := hb.trans (hb2.mono hb.size)
        go_wp2
        go_ret
        exact ⟨ret_eq (by rw [E.out]; rfl), B2⟩
      · have E := Lib.hid (show pasOk ps = false by unfold pasOk; rw [show decide (ps.length ≤ 6) = false from decide_eq_false (by omega)]; rfl)
        go_wp2
        go_ret
        exact ⟨ret_eq (by rw [E.out]; rfl), hb⟩


theorem Fn.bounds {x : Fn} (h : D.totals x.ds ≤ 1048576) : (∀ p ∈ x.params, p.ty.parts ≤ 2000000) ∧ x.params.length ≤ 1048576 ∧ x.res.parts ≤ 2000000 := by
  have e : D.totals x.ds = (rows Pa.ds 5 x.params).total + (D.totals x.res.ds + D.totals [.bool x.async]) := by
    unfold Fn.ds
    show _ + D.totals (x.res.ds ++ [.bool x.async]) = _
    rw [D.totals_append]
  rw [rows_total] at e
  refine ⟨fun p hp => ?_, by omega, ?_⟩
  · have h1 := totals_mem (f := Pa.ds) hp
    have h2 : D.totals p.ty.ds ≤ D.totals p.ds := by
      show _ ≤ _ + D.totals p.ty.ds
      omega
    have h3 := Ty.parts_total p.ty
    omega
  · have h3 := Ty.parts_total x.res
    omega

set_option maxHeartbeats 1000000 in
set_option maxRecDepth 20000 in
theorem funcOk_i (x : Fn) (cs : List Value) (w : World) (hcs : D.Ats w anyB x.ds cs) (ht : D.totals x.ds ≤ 1048576) :
    Calls Try.prog 69 #[.agg cs.toArray] w fun e w' => e = .returned (.bool (fnOk x)) ∧ Below w.heap.size w w' := by
  have HT := Lib.hid (Fn.bounds ht)
  obtain ⟨ps, res, async⟩ := x
  obtain ⟨B, d, k, n, A, m, c0, A', m', c1, rfl, hp, hr⟩ := Fn.open_ hcs
  simp only at hp hr
  have HV := Lib.hid hp
  have HR := Lib.hid hr
  have HE := Lib.hid (show fnOk ⟨ps, res, async⟩ = (pasOk ps && (tyOk res && !(res.has fun q => q == 21))) from rfl)
  clear hcs hp hr ht
  go_enter Try.func69, Try.ntmps69
  go_wp2_with fail
  refine (paramsOk_i ps _ _ _ (HV.out.below ((Below.refl _ _).alloc (Nat.le_refl _) _)) HT.out.1 HT.out.2.1).mono ?_
  rintro e w1 ⟨rfl, hb1⟩
  obtain ⟨B1, bA⟩ := box1 (cA := [_, _, _, _, _, _]) hb1
  clear hb1
  have c := bA.cell
  cases h1 : pasOk ps
  · have E1 := Lib.hid h1
    clear h1 c
    go_wp2
    go_ret
    exact ⟨ret_eq (by rw [HE.out, E1.out]; rfl), B1⟩
  have E1 := Lib.hid h1
  clear h1
  go_wp2_with fail
  refine (typeOk_i res _ _ (HR.out.below B1) HT.out.2.2).mono ?_
  rintro e w2 ⟨rfl, hb2⟩
  have B2 := B1.trans (hb2.mono B1.size)
  replace bA := bA.call hb2
  clear c hb2
  have c := bA.cell
  cases h2 : tyOk res
  · have E2 := Lib.hid h2
    clear h2 c
    go_wp2
    go_ret
    exact ⟨ret_eq (by rw [HE.out, E1.out, E2.out]; rfl), B2⟩
  have E2 := Lib.hid h2
  clear h2
  have lA := bA.lt
  go_wp2_with fail
  refine (hasKind_i [21] res _ _ _ _ (kinds1 _ 21 (by omega) _) (HR.out.below (B2.alloc B2.size _))).mono ?_
  rintro e w3 ⟨rfl, hb3⟩
  have B3 := (B2.alloc B2.size _).trans (hb3.mono (Nat.le_trans B2.size (by simp)))
  rw [mem21]
  clear c hb3
  cases h3 : res.has fun q => q == 21
  all_goals
    have E3 := Lib.hid h3
    clear h3
    go_wp2
    go_ret
    exact ⟨ret_eq (by rw [HE.out, E1.out, E2.out, E3.out]; rfl), B3⟩
end Go.Proofs.Ytmhnendajefakaa
