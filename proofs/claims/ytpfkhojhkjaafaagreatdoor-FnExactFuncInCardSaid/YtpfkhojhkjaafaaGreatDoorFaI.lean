/- Faces: the program's walk. -/
import Derived.Test.YtpfkhojhkjaafaaGreatDoorFaS
import Derived.Test.YtpfkhojhkjaafaaGreatDoorFaC
namespace Go.Proofs.YtpfkhojhkjaafaaGreatDoor
open Go.RowKit

theorem Fa.bounds {f : Fa} (h : D.totals f.ds ≤ 1048576) : f.ver.size ≤ 1048576 ∧ ∀ x ∈ f.funcs, D.totals x.ty.ds ≤ 1048576 := by
  have e : D.totals f.ds = f.pkg.size + (f.name.size + (f.ver.size + ((strs f.owns).total + ((rows Fu.ds 7 f.funcs).total + 0)))) := rfl
  rw [rows_total] at e
  refine ⟨by omega, fun x hx => ?_⟩
  have h1 := totals_mem (f := Fu.ds) hx
  have h2 : D.totals x.ty.ds ≤ D.totals x.ds := by
    show _ ≤ _ + D.totals x.ty.ds
    omega
  omega
theorem all_of_any {α : Type} {p : α → Bool} {l : List α} (h : l.any (fun s => !p s) = false) (x : α) (hx : x ∈ l) : p x = true := by
  cases hn : p x
  · have : l.any (fun s => !p s) = true := List.any_eq_true.2 ⟨x, hx, by rw [hn]; rfl⟩
    rw [h] at this
    cases this
  · rfl
theorem not_all_of_any {α : Type} {p : α → Bool} {l : List α} (h : l.any (fun s => !p s) = true) : l.all p = false := by
  obtain ⟨x, hx, hs⟩ := List.any_eq_true.1 h
  cases hl : l.all p
  · rfl
  · rw [List.all_eq_true.1 hl x hx] at hs
    cases hs
theorem fnNames_small {w : World} {S : Nat → Prop} {x : Fn} {cs : List Value} (h : D.Ats w S x.ds cs) : smallS (fnNames x) := by
  obtain ⟨ps, res, aa⟩ := x
  obtain ⟨PA, cA, k, n, A1, m1, c1, A2, m2, c2, rfl, hp, hr⟩ := Fn.open_ h
  simp only at hp hr
  intro s hs
  rcases List.mem_append.1 hs with hs | hs
  · exact Ty.res_small hr s hs
  · obtain ⟨p, hpm, hs⟩ := List.mem_flatMap.1 hs
    obtain ⟨j, hj⟩ := List.getElem?_of_mem hpm
    obtain ⟨b, off, u0, u1, u2, u3, u4, -, -, -, hat, -⟩ := rows_at5 Pa.len hp hj
    obtain ⟨xk, xn, X1, xm, xc, X2, xm2, xc2, -, -, hatx⟩ := Pa.open_ hat
    exact Ty.res_small hatx s hs
theorem fnNames_len {x : Fn} (h : fnOk x = true) : (fnNames x).length ≤ 1000 := by
  obtain ⟨ps, res, aa⟩ := x
  obtain ⟨h6, hpar, hres, hrp⟩ := kn_fit h
  have h1 := Ty.res_len res
  have h3 := names_len ps (fun p hp => (hpar p hp).2)
  show (res.res ++ ps.flatMap (fun p => p.ty.res)).length ≤ 1000
  rw [List.length_append]
  omega
/-- Between two rounds over the functions. -/
def FiRel (w : World) (f : Fa) (cells : List Value) (v i : Value) (wr : World) : Prop :=
  ∃ (q g c : Nat), q ≤ f.funcs.length ∧ i = .int .i64 q ∧ v = .slice (some ⟨g, 0, none⟩) q c ∧ wr.ownsRow (w.heap.size + 1) 9 1 v q (((f.funcs.take q).map Fu.name).map Value.string) ∧ AllTo (fuOk f.owns) f.funcs q ∧
    Box wr w.heap.size 37 cells ∧ Below w.heap.size w wr
set_option maxHeartbeats 4000000 in
set_option maxRecDepth 20000 in
theorem faceOk_i (f : Fa) (cs : List Value) (w : World) (hv : VerW w) (hcs : D.Ats w anyB f.ds cs) (ht : D.totals f.ds ≤ 1048576) :
    Calls Tryz.prog 38 #[.agg cs.toArray] w fun e w' => e = .returned (.bool (faceOk f)) ∧ Below w.heap.size w w' := by
  have HTF := Lib.hid (Fa.bounds ht)
  obtain ⟨AO, cO, AF, cF, rfl, z1, z2, z3, hO, hF⟩ := Fa.open_ hcs
  obtain ⟨-, hnO, hcO⟩ := rows_bound hO
  obtain ⟨-, hnF, hcF⟩ := rows_bound hF
  unfold maxLen at hcO hcF
  have HR := Lib.hid (And.intro hO hF)
  obtain ⟨w0, hw0⟩ : ∃ w0, w0 = w.alloc (.cells #[.string f.pkg, .string f.name, .string f.ver, .slice AO f.owns.length cO, .slice AF f.funcs.length cF] 37) := ⟨_, rfl⟩
  have bA : Box w0 w.heap.size 37 [.string f.pkg, .string f.name, .string f.ver, .slice AO f.owns.length cO, .slice AF f.funcs.length cF] := by rw [hw0]; exact Box.new w _ _
  have B0 : Below w.heap.size w w0 := by rw [hw0]; exact (Below.refl _ _).alloc (Nat.le_refl _) _
  have HP := Lib.hid (fun w => nameOk_i f.pkg z1 w)
  have HN := Lib.hid (fun w => nameOk_i f.name z2 w)
  have HVr := Lib.hid (fun w h => versionOk_i f.ver HTF.out.1 w h)
  have HVW := Lib.hid hv
  have HSM := Lib.hid (show smallS (f.funcs.map Fu.name) from fun s hs => by
    obtain ⟨x, hx, rfl⟩ := List.mem_map.1 hs
    obtain ⟨j, hj⟩ := List.getElem?_of_mem hx
    obtain ⟨b, off, u0, u1, u2, u3, u4, u5, u6, -, -, -, hat, -⟩ := rows_at7 Fu.len hF hj
    obtain ⟨y0, y1, y2, y3, y4, y5, y6, y7, y8, y9, y10, y11, -, hxs, -⟩ := Fu.open_ hat
    exact hxs)
  have HOS := Lib.hid (show ∀ s ∈ f.owns, s.size ≤ maxLen from fun s hs => by
    obtain ⟨j, hj⟩ := List.getElem?_of_mem hs
    obtain ⟨b, off, u0, -, -, -, hat, -⟩ := rows_at1 strD_length hO hj
    exact (str_open hat).2)
  clear hcs hO hF hv ht z3
  change Calls Tryz.prog 38 #[.agg #[.string f.pkg, .string f.name, .string f.ver, .slice AO f.owns.length cO, .slice AF f.funcs.length cF]] w _
  have kA := bA.cell
  go_enter Tryz.func38, Tryz.ntmps38
  go_upto_region 1 with fail
  rw [← hw0]
  clear hw0
  go_wp2_with fail
  refine (HP.out _).mono ?_
  rintro e w1 ⟨rfl, hb1⟩
  have B1 := B0.trans (hb1.mono B0.size)
  have bA1 := bA.call hb1
  clear kA hb1
  have kA := bA1.cell
  cases o1 : nameOk f.pkg
  · have HV := Lib.hid (show faceOk f = false by unfold faceOk; rw [o1]; rfl)
    clear o1
    go_wp2
    exact bodyPost_ret (v := .bool false) (by simp [results, Tryz.results38, go_sem]) rfl ⟨by rw [HV.out], B1⟩
  have O1 := Lib.hid o1
  clear o1
  go_wp2_with fail
  refine (HN.out _).mono ?_
  rintro e w2 ⟨rfl, hb2⟩
  have B2 := B1.trans (hb2.mono B1.size)
  have bA2 := bA1.call hb2
  clear kA hb2
  have kA := bA2.cell
  cases o2 : nameOk f.name
  · have HV := Lib.hid (show faceOk f = false by unfold faceOk; rw [O1.out, o2]; rfl)
    clear o2
    go_wp2
    exact bodyPost_ret (v := .bool false) (by simp [results, Tryz.results38, go_sem]) rfl ⟨by rw [HV.out], B2⟩
  have O2 := Lib.hid o2
  clear o2
  go_wp2_with fail
  refine (HVr.out _ (HVW.out.below B2)).mono ?_
  rintro e w3 ⟨rfl, hb3⟩
  have B3 := B2.trans (hb3.mono B2.size)
  have bA3 := bA2.call hb3
  clear kA hb3
  have kA := bA3.cell
  cases o3 : numIs f.ver
  · have HV := Lib.hid (show faceOk f = false by unfold faceOk; rw [O1.out, O2.out, o3]; rfl)
    clear o3
    go_wp2
    exact bodyPost_ret (v := .bool false) (by simp [results, Tryz.results38, go_sem]) rfl ⟨by rw [HV.out], B3⟩
  have O3 := Lib.hid o3
  clear o3
  by_cases o4 : (4 : Int) < (f.owns.length : Int)
  · have HV := Lib.hid (show faceOk f = false by unfold faceOk; rw [O1.out, O2.out, O3.out, decide_eq_false (show ¬ f.owns.length ≤ 4 by omega)]; rfl)
    go_wp2
    exact bodyPost_ret (v := .bool false) (by simp [results, Tryz.results38, go_sem]) rfl ⟨by rw [HV.out], B3⟩
  by_cases o5 : (8 : Int) < (f.funcs.length : Int)
  · have HV := Lib.hid (show faceOk f = false by unfold faceOk; rw [O1.out, O2.out, O3.out, decide_eq_true (show f.owns.length ≤ 4 by omega), decide_eq_false (show ¬ f.funcs.length ≤ 8 by omega)]; rfl)
    go_wp2
    exact bodyPost_ret (v := .bool false) (by simp [results, Tryz.results38, go_sem]) rfl ⟨by rw [HV.out], B3⟩
  have HFO := Lib.hid (show faceOk f = ((f.owns.all nameOk && incB f.owns) && (f.funcs.all (fuOk f.owns) && incB (f.funcs.map Fu.name))) by unfold faceOk; rw [O1.out, O2.out, O3.out, decide_eq_true (show f.owns.length ≤ 4 by omega), decide_eq_true (show f.funcs.length ≤ 8 by omega)]; simp)
  go_wp2_with fail
  refine (increasing_i f.owns _ _ _ (HR.out.1.below B3)).mono ?_
  rintro e w4 ⟨rfl, hb4⟩
  have B4 := B3.trans (hb4.mono B3.size)
  have bA4 := bA3.call hb4
  clear kA hb4
  have kA := bA4.cell
  cases o6 : incB f.owns
  · have HV := Lib.hid (show faceOk f = false by rw [HFO.out, o6]; simp)
    clear o6
    go_wp2
    exact bodyPost_ret (v := .bool false) (by simp [results, Tryz.results38, go_sem]) rfl ⟨by rw [HV.out], B4⟩
  have O6 := Lib.hid o6
  clear o6
  have HC := Lib.hid (conFn 81 (fun s => !nameOk s) #[] f.owns AO cO w4 (fun x hx W _ => face1_i x (HOS.out x hx) W) (enters_of Tryz.func81 (by kernel_rfl) rfl) (HR.out.1.below B4))
  go_wp2_with fail
  refine (HC.out).mono ?_
  rintro e w5 ⟨rfl, hb5⟩
  have B5 := B4.trans (hb5.mono B4.size)
  have bA5 := bA4.call hb5
  clear kA hb5
  have kA := bA5.cell
  cases o7 : f.owns.any (fun s => !nameOk s)
  case true =>
    have HV := Lib.hid (show faceOk f = false by rw [HFO.out, show f.owns.all nameOk = false from not_all_of_any o7]; rfl)
    clear o7 HC
    go_wp2
    exact bodyPost_ret (v := .bool false) (by simp [results, Tryz.results38, go_sem]) rfl ⟨by rw [HV.out], B5⟩
  have HF2 := Lib.hid (show faceOk f = (f.funcs.all (fuOk f.owns) && incB (f.funcs.map Fu.name)) by rw [HFO.out, O6.out, show f.owns.all nameOk = true from List.all_eq_true.2 (fun x hx => all_of_any o7 x hx)]; rfl)
  clear o7 HC
  have lA := bA5.lt
  have HST := Lib.hid (show FiRel w f [.string f.pkg, .string f.name, .string f.ver, .slice AO f.owns.length cO, .slice AF f.funcs.length cF] (.slice (some ⟨w5.heap.size, 0, none⟩) 0 0) (.int .i64 0) (w5.alloc (.cells #[] 9)) from ⟨0, _, _, Nat.zero_le _, rfl, rfl, row_empty w5 (w.heap.size + 1) (by omega) _, fun j x h => absurd h (by omega), bA5.alloc _, B5.alloc B5.size _⟩)
  have HW := Lib.hid (And.intro B5 bA5)
  clear B0 B1 B2 B3 B4 B5 bA bA1 bA2 bA3 bA4 bA5
  go_wp2
  go_loopw [3, 5, 47] (fun v _ i wr => FiRel w f [.string f.pkg, .string f.name, .string f.ver, .slice AO f.owns.length cO, .slice AF f.funcs.length cF] v i wr) (fun _ _ i _ => f.funcs.length - (intOf i).toNat)
  case atStart => exact HST.out
  clear kA
  case round =>
    obtain ⟨q, g, c, hq, rfl, rfl, hown, hall, bA, Bw⟩ := hrel
    have lA := bA.lt
    have HALL := Lib.hid hall
    have HB := Lib.hid (And.intro bA Bw)
    by_cases hlt : q < f.funcs.length
    · obtain ⟨x, hx⟩ : ∃ x, f.funcs[q]? = some x := ⟨f.funcs[q], List.getElem?_eq_getElem hlt⟩
      have hk0 : (0 : Int) ≤ (q : Int) := by omega
      have hk1 : (q : Int) < (f.funcs.length : Int) := by omega
      obtain ⟨b, off, u0, u1, u2, u3, u4, u5, u6, e, -, hbl, hat, d0, d1, d2, d3, d4, d5, d6⟩ := rows_at7 Fu.len (HR.out.2.below Bw) hx
      subst e
      obtain ⟨y0, y1, y2, y3, y4, y5, y6, y7, y8, y9, y10, y11, exx, hxs, hatx⟩ := Fu.open_ hat
      simp only [List.cons.injEq, and_true] at exx
      obtain ⟨rfl, rfl, rfl, rfl, rfl, rfl, rfl⟩ := exx
      have HX := Lib.hid hatx
      have HXS := Lib.hid (fnNames_small hatx)
      have HS := Lib.hid hx
      have HXT := Lib.hid (HTF.out.2 x (List.mem_of_getElem? hx))
      have HOW := Lib.hid hown
      have HNX := Lib.hid (show (f.funcs.take (q + 1)).map Fu.name = (f.funcs.take q).map Fu.name ++ [x.name] by rw [List.take_add_one, hx]; simp)
      clear hat hatx hx hall hown bA Bw
      go_wp2_with fail
      refine (nameOk_i x.name hxs _).mono ?_
      rintro e w3 ⟨rfl, hb3⟩
      obtain ⟨Bx3, bP⟩ := box1 (cA := [_, _, _, _, _, _, _]) hb3
      have HB3 := Lib.hid (And.intro (HB.out.1.call Bx3) (HB.out.2.trans (Bx3.mono HB.out.2.size)))
      clear hb3 d0 d1 d2 d3 d4 d5 d6
      have c3 := bP.cell
      cases h3 : nameOk x.name
      · have HV := Lib.hid (show faceOk f = false by rw [HF2.out, all_bad HS.out (by unfold fuOk; rw [h3]; rfl)]; rfl)
        clear h3
        go_wp2
        exact bodyPost_ret (v := .bool false) (by simp [results, Tryz.results38, go_sem]) rfl ⟨by rw [HV.out], HB3.out.2⟩
      have E3 := Lib.hid h3
      clear h3
      go_wp2_with fail
      refine (funcOk_i x.ty _ _ (HX.out.below Bx3) HXT.out).mono ?_
      rintro e w4 ⟨rfl, hb4⟩
      have Bx4 := Bx3.trans (hb4.mono Bx3.size)
      replace bP := bP.call hb4
      have HB4 := Lib.hid (And.intro (HB.out.1.call Bx4) (HB.out.2.trans (Bx4.mono HB.out.2.size)))
      clear c3 hb4
      have c3 := bP.cell
      cases h4 : fnOk x.ty
      · have HV := Lib.hid (show faceOk f = false by rw [HF2.out, all_bad HS.out (by unfold fuOk; rw [h4]; simp)]; rfl)
        clear h4
        go_wp2
        exact bodyPost_ret (v := .bool false) (by simp [results, Tryz.results38, go_sem]) rfl ⟨by rw [HV.out], HB4.out.2⟩
      have E4 := Lib.hid h4
      have HNL := Lib.hid (fnNames_len h4)
      clear h4
      go_wp2_with fail
      refine (funcResources_i x.ty _ _ E4.out (HX.out.below Bx4)).mono ?_
      rintro e w5 ⟨g5, c5, rfl, ho5, hb5⟩
      have Bx5 := Bx4.trans (hb5.mono Bx4.size)
      replace bP := bP.call hb5
      have HB5 := Lib.hid (And.intro (HB.out.1.call Bx5) (HB.out.2.trans (Bx5.mono HB.out.2.size)))
      have HRW := Lib.hid (HXS.out.own ho5 (by have := HNL.out; unfold maxLen; omega))
      clear c3 hb5 ho5
      have HC := Lib.hid (conFn 84 (fun s => !memS f.owns s) #[.pointer (some ⟨w.heap.size, 0, none⟩)] (fnNames x.ty) _ _ w5 (fun s _ W hW => face2_i s w.heap.size f.pkg f.name f.ver AO cO _ f.owns W (HB5.out.1.call hW) ((HR.out.1.below HB5.out.2).below hW)) (enters_of Tryz.func84 (by kernel_rfl) rfl) HRW.out)
      have c3 := bP.cell
      obtain ⟨LN, hLN⟩ : ∃ LN, (fnNames x.ty).length = LN := ⟨_, rfl⟩
      rw [hLN] at HC ⊢
      clear hLN
      go_wp2_with fail
      refine HC.out.mono ?_
      rintro e w6 ⟨rfl, hb6⟩
      have Bx6 := Bx5.trans (hb6.mono Bx5.size)
      replace bP := bP.call hb6
      have HB6 := Lib.hid (And.intro (HB.out.1.call Bx6) (HB.out.2.trans (Bx6.mono HB.out.2.size)))
      clear c3 hb6 HC
      have c3 := bP.cell
      cases h6 : (fnNames x.ty).any (fun s => !memS f.owns s)
      case true =>
        have HV := Lib.hid (show faceOk f = false by rw [HF2.out, all_bad HS.out (by unfold fuOk knownB; rw [not_all_of_any h6]; simp)]; rfl)
        clear h6
        go_wp2
        exact bodyPost_ret (v := .bool false) (by simp [results, Tryz.results38, go_sem]) rfl ⟨by rw [HV.out], HB6.out.2⟩
      have HAN := Lib.hid (HALL.out.next HS.out (by unfold fuOk knownB; rw [E3.out, E4.out, List.all_eq_true.2 (all_of_any h6)]; rfl))
      have hown6 := own_below' HOW.out Bx6
      have hl2 : q + 1 ≤ 8796093022208 := by omega
      have hbs : w.heap.size + 1 ≤ w6.heap.size := HB6.out.1.lt
      clear h6 Bx3 Bx4 Bx5 Bx6
      go_wp2_with (at_builtin; refine wpList_str hown6 x.name (.tmp 66) (.tmp 69) hl2 hbs w6.heap.size rfl ?_; intro v' w' ho' hb')
      have HB7 := Lib.hid (And.intro (HB6.out.1.under' hb' (Nat.lt_succ_self _)) (HB6.out.2.trans (hb'.mono (Nat.le_succ _))))
      obtain ⟨g', c', rfl, -⟩ := own_form ho' (by omega)
      clear hown6 hb'
      go_wp2
      go_roundw
      case rel => exact ⟨q + 1, g', c', by omega, by go_num, rfl, by rw [HNX.out]; exact ho', HAN.out, HB7.out.1, HB7.out.2⟩
      case measure => simp [intOf]; omega
    · obtain rfl : q = f.funcs.length := by omega
      rw [show f.funcs.take f.funcs.length = f.funcs from List.take_of_length_le (by omega)] at hown
      have HAT := Lib.hid (smallS.own (L := f.funcs.map Fu.name) (by simpa using hown) HSM.out (by simp; unfold maxLen; omega))
      have HI := Lib.hid (fun hA => increasing_i (f.funcs.map Fu.name) (some ⟨g, 0, none⟩) c wr hA)
      have HV := Lib.hid (show faceOk f = incB (f.funcs.map Fu.name) by rw [HF2.out, HALL.out.end_]; rfl)
      rw [show (f.funcs.map Fu.name).length = f.funcs.length from by simp] at HI
      replace HI := Lib.hid (HI.out HAT.out)
      clear hall hown bA Bw
      go_wp2_with fail
      refine HI.out.mono ?_
      rintro e w8 ⟨rfl, hb8⟩
      have HB8 := Lib.hid (HB.out.2.trans (hb8.mono HB.out.2.size))
      clear hb8
      go_wp2
      go_ret
      exact ⟨ret_eq (by rw [HV.out]; rfl), HB8.out⟩
end Go.Proofs.YtpfkhojhkjaafaaGreatDoor
