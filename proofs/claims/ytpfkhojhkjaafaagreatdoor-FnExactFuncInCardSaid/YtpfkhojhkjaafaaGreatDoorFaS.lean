/- Faces: the reference's walk. -/
import Derived.Test.YtpfkhojhkjaafaaGreatDoorPkRes
import Derived.Test.YtpfkhojhkjaafaaGreatDoorPkNum
import Derived.BigQuiet
namespace Go.Proofs.YtpfkhojhkjaafaaGreatDoor
open Go.RowKit

def fuOk (L : List ByteArray) (u : Fu) : Bool := nameOk u.name && (fnOk u.ty && knownB u.ty L)
def faceOk (f : Fa) : Bool := nameOk f.pkg && (nameOk f.name && (numIs f.ver && (decide (f.owns.length ≤ 4) && (decide (f.funcs.length ≤ 8) && ((f.owns.all nameOk && incB f.owns) && (f.funcs.all (fuOk f.owns) && incB (f.funcs.map Fu.name)))))))
set_option maxHeartbeats 4000000 in
set_option maxRecDepth 20000 in
theorem l03Face_s (f : Fa) (cs : List Value) (w : World) (hcs : D.Ats w anyB f.ds cs) :
    Calls Tryz.prog 33 #[.agg cs.toArray] w fun e w' => e = .returned (.bool (faceOk f)) ∧ Below w.heap.size w w' := by
  obtain ⟨AO, cO, AF, cF, rfl, z1, z2, z3, hO, hF⟩ := Fa.open_ hcs
  obtain ⟨-, hnO, hcO⟩ := rows_bound hO
  obtain ⟨-, hnF, hcF⟩ := rows_bound hF
  unfold maxLen at hcO hcF
  have HR := Lib.hid (And.intro hO hF)
  obtain ⟨w0, hw0⟩ : ∃ w0, w0 = w.alloc (.cells #[.string f.pkg, .string f.name, .string f.ver, .slice AO f.owns.length cO, .slice AF f.funcs.length cF] 37) := ⟨_, rfl⟩
  have bA : Box w0 w.heap.size 37 [.string f.pkg, .string f.name, .string f.ver, .slice AO f.owns.length cO, .slice AF f.funcs.length cF] := by rw [hw0]; exact Box.new w _ _
  have B0 : Below w.heap.size w w0 := by rw [hw0]; exact (Below.refl _ _).alloc (Nat.le_refl _) _
  have HP := Lib.hid (fun w => l03Name_s f.pkg z1 w)
  have HN := Lib.hid (fun w => l03Name_s f.name z2 w)
  have HVr := Lib.hid (fun w => versionOk_s f.ver (by have := z3; unfold maxLen at this; omega) w)
  clear hcs hO hF
  change Calls Tryz.prog 33 #[.agg #[.string f.pkg, .string f.name, .string f.ver, .slice AO f.owns.length cO, .slice AF f.funcs.length cF]] w _
  have kA := bA.cell
  cases o1 : nameOk f.pkg
  · have HV := Lib.hid (show faceOk f = false by unfold faceOk; rw [o1]; rfl)
    rw [o1] at HP
    clear o1
    go_enter Tryz.func33, Tryz.ntmps33
    go_upto_region 1 with fail
    rw [← hw0]
    clear hw0
    go_wp2_with fail
    refine (HP.out _).mono ?_
    rintro e w9 ⟨rfl, rfl⟩
    go_wp2
    exact bodyPost_ret (v := .bool false) (by simp [results, Tryz.results33, go_sem]) rfl ⟨by rw [HV.out], B0⟩
  cases o2 : nameOk f.name
  · have HV := Lib.hid (show faceOk f = false by unfold faceOk; rw [o1, o2]; rfl)
    rw [o1] at HP
    rw [o2] at HN
    clear o1 o2
    go_enter Tryz.func33, Tryz.ntmps33
    go_upto_region 1 with fail
    rw [← hw0]
    clear hw0
    go_wp2_with fail
    refine (HP.out _).mono ?_
    rintro e w9 ⟨rfl, rfl⟩
    go_wp2_with fail
    refine (HN.out _).mono ?_
    rintro e w9 ⟨rfl, rfl⟩
    go_wp2
    exact bodyPost_ret (v := .bool false) (by simp [results, Tryz.results33, go_sem]) rfl ⟨by rw [HV.out], B0⟩
  cases o3 : numIs f.ver
  · have HV := Lib.hid (show faceOk f = false by unfold faceOk; rw [o1, o2, o3]; rfl)
    rw [o1] at HP
    rw [o2] at HN
    rw [o3] at HVr
    clear o1 o2 o3
    go_enter Tryz.func33, Tryz.ntmps33
    go_upto_region 1 with fail
    rw [← hw0]
    clear hw0
    go_wp2_with fail
    refine (HP.out _).mono ?_
    rintro e w9 ⟨rfl, rfl⟩
    go_wp2_with fail
    refine (HN.out _).mono ?_
    rintro e w9 ⟨rfl, rfl⟩
    go_wp2_with fail
    refine (HVr.out _).mono ?_
    rintro e w1 ⟨rfl, hb1⟩
    have B1 := B0.trans (hb1.mono B0.size)
    clear kA
    have bA1 := bA.call hb1
    have kA := bA1.cell
    go_wp2
    exact bodyPost_ret (v := .bool false) (by simp [results, Tryz.results33, go_sem]) rfl ⟨by rw [HV.out], B1⟩
  by_cases o4 : f.owns.length ≤ 4
  case neg =>
    have HV := Lib.hid (show faceOk f = false by unfold faceOk; rw [o1, o2, o3, decide_eq_false o4]; rfl)
    rw [o1] at HP
    rw [o2] at HN
    rw [o3] at HVr
    have o4' : (4 : Int) < (f.owns.length : Int) := by omega
    clear o1 o2 o3
    go_enter Tryz.func33, Tryz.ntmps33
    go_upto_region 1 with fail
    rw [← hw0]
    clear hw0
    go_wp2_with fail
    refine (HP.out _).mono ?_
    rintro e w9 ⟨rfl, rfl⟩
    go_wp2_with fail
    refine (HN.out _).mono ?_
    rintro e w9 ⟨rfl, rfl⟩
    go_wp2_with fail
    refine (HVr.out _).mono ?_
    rintro e w1 ⟨rfl, hb1⟩
    have B1 := B0.trans (hb1.mono B0.size)
    clear kA
    have bA1 := bA.call hb1
    have kA := bA1.cell
    go_wp2
    exact bodyPost_ret (v := .bool false) (by simp [results, Tryz.results33, go_sem]) rfl ⟨by rw [HV.out], B1⟩
  by_cases o5 : f.funcs.length ≤ 8
  case neg =>
    have HV := Lib.hid (show faceOk f = false by unfold faceOk; rw [o1, o2, o3, decide_eq_true o4, decide_eq_false o5]; rfl)
    rw [o1] at HP
    rw [o2] at HN
    rw [o3] at HVr
    have o4' : ¬ (4 : Int) < (f.owns.length : Int) := by omega
    have o5' : (8 : Int) < (f.funcs.length : Int) := by omega
    clear o1 o2 o3
    go_enter Tryz.func33, Tryz.ntmps33
    go_upto_region 1 with fail
    rw [← hw0]
    clear hw0
    go_wp2_with fail
    refine (HP.out _).mono ?_
    rintro e w9 ⟨rfl, rfl⟩
    go_wp2_with fail
    refine (HN.out _).mono ?_
    rintro e w9 ⟨rfl, rfl⟩
    go_wp2_with fail
    refine (HVr.out _).mono ?_
    rintro e w1 ⟨rfl, hb1⟩
    have B1 := B0.trans (hb1.mono B0.size)
    clear kA
    have bA1 := bA.call hb1
    have kA := bA1.cell
    go_wp2
    exact bodyPost_ret (v := .bool false) (by simp [results, Tryz.results33, go_sem]) rfl ⟨by rw [HV.out], B1⟩
  have HFO := Lib.hid (show faceOk f = ((f.owns.all nameOk && incB f.owns) && (f.funcs.all (fuOk f.owns) && incB (f.funcs.map Fu.name))) by unfold faceOk; rw [o1, o2, o3, decide_eq_true o4, decide_eq_true o5]; simp)
  rw [o1] at HP
  rw [o2] at HN
  rw [o3] at HVr
  have o4' : ¬ (4 : Int) < (f.owns.length : Int) := by omega
  have o5' : ¬ (8 : Int) < (f.funcs.length : Int) := by omega
  clear o1 o2 o3
  go_enter Tryz.func33, Tryz.ntmps33
  go_upto_region 1 with fail
  rw [← hw0]
  clear hw0
  go_wp2_with fail
  refine (HP.out _).mono ?_
  rintro e w9 ⟨rfl, rfl⟩
  go_wp2_with fail
  refine (HN.out _).mono ?_
  rintro e w9 ⟨rfl, rfl⟩
  go_wp2_with fail
  refine (HVr.out _).mono ?_
  rintro e w1 ⟨rfl, hb1⟩
  have B1 := B0.trans (hb1.mono B0.size)
  clear kA
  have bA1 := bA.call hb1
  have kA := bA1.cell
  clear kA
  have kA := bA1.cell
  go_wp2
  go_loopw [3] (fun i wr => ∃ q : Nat, q ≤ f.owns.length ∧ i = .int .i64 q ∧ AllTo nameOk f.owns q ∧ incTo f.owns q ∧ Below w.heap.size w wr ∧ Box wr w.heap.size 37 [.string f.pkg, .string f.name, .string f.ver, .slice AO f.owns.length cO, .slice AF f.funcs.length cF]) (fun i _ => f.owns.length - (intOf i).toNat)
  case atStart => exact ⟨0, Nat.zero_le _, rfl, fun j x h => absurd h (by omega), fun j x y h => absurd h (by omega), B1, bA1⟩
  clear bA bA1 B0 B1 kA
  case round =>
    obtain ⟨q, hq, rfl, hall, hinc, hb, bA⟩ := hrel
    have HA := Lib.hid (And.intro hall hinc)
    clear hall hinc
    have kA := bA.cell
    by_cases hlt : q < f.owns.length
    · obtain ⟨s, hs⟩ : ∃ s, f.owns[q]? = some s := ⟨f.owns[q], List.getElem?_eq_getElem hlt⟩
      have hk0 : (0 : Int) ≤ (q : Int) := by omega
      have hk1 : (q : Int) < (f.owns.length : Int) := by omega
      obtain ⟨b, off, u0, e, -, hbl, hat, c0⟩ := rows_at1 strD_length (HR.out.1.below hb) hs
      subst e
      obtain ⟨rfl, hss⟩ := str_open hat
      have HS := Lib.hid hs
      have HNs := Lib.hid (fun w => l03Name_s s hss w)
      have g1 := cell_regrown (show wr.cell? ⟨w.heap.size, 3, none⟩ = some (.slice (some ⟨b, off, none⟩) f.owns.length cO) from kA 3)
      have d0 := cell_regrown c0
      clear hs hat
      cases o6 : nameOk s
      · have HV := Lib.hid (show faceOk f = false by rw [HFO.out, all_bad HS.out o6]; rfl)
        rw [o6] at HNs
        clear o6 c0
        go_wp2_with fail
        refine wp_region_quiet_below (by kernel_rfl) (by kernel_rfl) ?_
        repeat (first | go_big_quiet_step (exact regrown_same (HNs.out _)) | quiet_step (exact regrown_same (HNs.out _)))
        refine wpQuiet_nil ?_
        intro w2 hw2
        have hbq := below_of_regrown hw2
        have hb2 := hb.trans (hbq.mono hb.size)
        have bA2 := bA.call hbq
        clear hw2 hbq kA g1
        clear d0
        go_wp2
        exact bodyPost_ret (v := .bool false) (by simp [results, Tryz.results33, go_sem]) rfl ⟨by rw [HV.out], hb2⟩
      · rw [o6] at HNs
        have HAN := Lib.hid (HA.out.1.next HS.out o6)
        clear o6
        cases q with
        | zero =>
          have hk2 : (0 : Int) < (f.owns.length : Int) := by omega
          simp only [Nat.add_zero] at d0
          rw [show ((0 : Nat) : Int) = 0 from rfl]
          clear c0 hk0 hk1
          go_wp2_with fail
          refine wp_region_quiet_below (by kernel_rfl) (by kernel_rfl) ?_
          repeat (first | go_big_quiet_step (exact regrown_same (HNs.out _)) | quiet_step (exact regrown_same (HNs.out _)))
          refine wpQuiet_nil ?_
          intro w2 hw2
          have hbq := below_of_regrown hw2
          have hb2 := hb.trans (hbq.mono hb.size)
          have bA2 := bA.call hbq
          clear hw2 hbq kA g1
          clear d0
          go_wp2
          go_roundw
          case rel => exact ⟨1, by omega, by go_num, HAN.out, fun j x y h => absurd h (by omega), hb2, bA2⟩
          case measure => simp [intOf]; omega
        | succ q =>
          obtain ⟨r, hr⟩ : ∃ r, f.owns[q]? = some r := ⟨f.owns[q]'(by omega), List.getElem?_eq_getElem (by omega)⟩
          obtain ⟨b', off', u1, e, -, -, hat', c1⟩ := rows_at1 strD_length (HR.out.1.below hb) hr
          simp only [Option.some.injEq, Addr.mk.injEq] at e
          obtain ⟨rfl, rfl, -⟩ := e
          obtain ⟨rfl, -⟩ := str_open hat'
          have d1 := cell_regrown c1
          have HPR := Lib.hid hr
          have i0 : ((q + 1 : Nat) : Int) = (q : Int) + 1 := by omega
          have i1 : (q : Int) + 1 < (f.owns.length : Int) := by omega
          have i2 : (0 : Int) ≤ (q : Int) := by omega
          have i3 : (q : Int) < (f.owns.length : Int) := by omega
          have i4 : (0 : Int) ≤ (q : Int) + 1 := by omega
          have i5 : ((q : Int) + 1).toNat = q + 1 := by omega
          have i6 : (q : Int) + 1 - 1 = (q : Int) := by omega
          have i7 : (0 : Int) < (q : Int) + 1 := by omega
          rw [i0]
          clear hr hat' c0 c1 hk0 hk1 i0
          cases hl : Op.bytesLess r.toList s.toList
          all_goals
            have HL := Lib.hid hl
            go_wp2_with fail
            refine wp_region_quiet_below (by kernel_rfl) (by kernel_rfl) ?_
            repeat (first | go_big_quiet_step (exact regrown_same (HNs.out _)) | quiet_step (exact regrown_same (HNs.out _)))
            refine wpQuiet_nil ?_
            intro w2 hw2
            have hbq := below_of_regrown hw2
            have hb2 := hb.trans (hbq.mono hb.size)
            have bA2 := bA.call hbq
            clear hw2 hbq kA g1
            clear d0 d1
          · have HV := Lib.hid (show faceOk f = false by rw [HFO.out, inc_bad HPR.out HS.out HL.out]; simp)
            go_wp2
            exact bodyPost_ret (v := .bool false) (by simp [results, Tryz.results33, go_sem]) rfl ⟨by rw [HV.out], hb2⟩
          · have HI := Lib.hid (HA.out.2.next HPR.out HS.out HL.out)
            go_wp2
            go_roundw
            case rel => exact ⟨q + 2, by omega, by go_num, HAN.out, HI.out, hb2, bA2⟩
            case measure => simp [intOf]; omega
    · obtain rfl : q = f.owns.length := by omega
      have HOK := Lib.hid (And.intro HA.out.1.end_ (inc_end HA.out.2))
      have HFO2 := Lib.hid (show faceOk f = (f.funcs.all (fuOk f.owns) && incB (f.funcs.map Fu.name)) by rw [HFO.out, HOK.out.1, HOK.out.2]; rfl)
      obtain ⟨W1, hW1⟩ : ∃ W1, W1 = wr := ⟨_, rfl⟩
      rw [← hW1] at hb bA kA ⊢
      clear hW1
      have HW := Lib.hid (And.intro hb bA)
      clear hb bA
      go_wp2
      go_loopw [4] (fun i wr => ∃ q : Nat, q ≤ f.funcs.length ∧ i = .int .i64 q ∧ AllTo (fuOk f.owns) f.funcs q ∧ incTo (f.funcs.map Fu.name) q ∧ Below w.heap.size w wr ∧ Box wr w.heap.size 37 [.string f.pkg, .string f.name, .string f.ver, .slice AO f.owns.length cO, .slice AF f.funcs.length cF]) (fun i _ => f.funcs.length - (intOf i).toNat)
      case atStart => exact ⟨0, Nat.zero_le _, rfl, fun j x h => absurd h (by omega), fun j x y h => absurd h (by omega), HW.out.1, HW.out.2⟩
      clear kA
      case round =>
        obtain ⟨q, hq, rfl, hall, hinc, hb, bA⟩ := hrel
        have HA2 := Lib.hid (And.intro hall hinc)
        clear hall hinc
        have kA := bA.cell
        by_cases hlt : q < f.funcs.length
        · obtain ⟨x, hs⟩ : ∃ x, f.funcs[q]? = some x := ⟨f.funcs[q], List.getElem?_eq_getElem hlt⟩
          have hk0 : (0 : Int) ≤ (q : Int) := by omega
          have hk1 : (q : Int) < (f.funcs.length : Int) := by omega
          obtain ⟨b, off, u0, u1, u2, u3, u4, u5, u6, e, -, hbl, hat, c0, c1, c2, c3, c4, c5, c6⟩ := rows_at7 Fu.len (HR.out.2.below hb) hs
          subst e
          obtain ⟨y0, y1, y2, y3, y4, y5, y6, y7, y8, y9, y10, y11, exx, hxs, hatx⟩ := Fu.open_ hat
          simp only [List.cons.injEq, and_true] at exx
          obtain ⟨rfl, rfl, rfl, rfl, rfl, rfl, rfl⟩ := exx
          have HS := Lib.hid hs
          have HSN := Lib.hid (show (f.funcs.map Fu.name)[q]? = some x.name by simp [hs])
          have HNs := Lib.hid (fun w => l03Name_s x.name hxs w)
          have HFn := Lib.hid (fun W (G : Below wr.heap.size wr W) => l03Func_s x.ty _ W (hatx.below G))
          have HKn := Lib.hid (fun (ok : fnOk x.ty = true) W (G : Below wr.heap.size wr W) => l03Known_s x.ty f.owns _ AO cO W ok (hatx.below G) ((HR.out.1.below hb).below G))
          have g1 := cell_regrown (show wr.cell? ⟨w.heap.size, 4, none⟩ = some (.slice (some ⟨b, off, none⟩) f.funcs.length cF) from kA 4)
          have g2 := cell_regrown (show wr.cell? ⟨w.heap.size, 3, none⟩ = some (.slice AO f.owns.length cO) from kA 3)
          have d0 := cell_regrown c0
          have d1 := cell_regrown c1
          have d2 := cell_regrown c2
          have d3 := cell_regrown c3
          have d4 := cell_regrown c4
          have d5 := cell_regrown c5
          have d6 := cell_regrown c6
          clear hs hat hatx c0 c1 c2 c3 c4 c5 c6
          cases o6 : nameOk x.name
          · have HV := Lib.hid (show faceOk f = false by rw [HFO2.out, all_bad HS.out (by unfold fuOk; rw [o6]; rfl)]; rfl)
            rw [o6] at HNs
            clear o6
            go_wp2_with fail
            refine wp_region_quiet_below (by kernel_rfl) (by kernel_rfl) ?_
            repeat (first | go_big_quiet_step ((first | exact regrown_same (HNs.out _) | with_reducible exact Calls.regrown_of (HFn.out _ (below_regrown _ _ _)) | with_reducible exact Calls.regrown_of (HKn.out _ (below_regrown _ _ _)))) | quiet_step ((first | exact regrown_same (HNs.out _) | with_reducible exact Calls.regrown_of (HFn.out _ (below_regrown _ _ _)) | with_reducible exact Calls.regrown_of (HKn.out _ (below_regrown _ _ _)))))
            refine wpQuiet_nil ?_
            intro w2 hw2
            have hbq := below_of_regrown hw2
            have hb2 := hb.trans (hbq.mono hb.size)
            have bA2 := bA.call hbq
            clear hw2 hbq kA g1
            clear g2 d0 d1 d2 d3 d4 d5 d6
            go_wp2
            exact bodyPost_ret (v := .bool false) (by simp [results, Tryz.results33, go_sem]) rfl ⟨by rw [HV.out], hb2⟩
          · have HO6 := Lib.hid o6
            rw [o6] at HNs
            clear o6
            cases q with
            | zero =>
              have hk2 : (0 : Int) < (f.funcs.length : Int) := by omega
              simp only [Nat.zero_mul, Nat.add_zero] at d0 d1 d2 d3 d4 d5 d6
              rw [show ((0 : Nat) : Int) = 0 from rfl]
              clear hk0 hk1
              cases o7 : fnOk x.ty
              · have HV := Lib.hid (show faceOk f = false by rw [HFO2.out, all_bad HS.out (by unfold fuOk; rw [o7]; simp)]; rfl)
                rw [o7] at HFn
                clear o7
                go_wp2_with fail
                refine wp_region_quiet_below (by kernel_rfl) (by kernel_rfl) ?_
                repeat (first | go_big_quiet_step ((first | exact regrown_same (HNs.out _) | with_reducible exact Calls.regrown_of (HFn.out _ (below_regrown _ _ _)) | with_reducible exact Calls.regrown_of (HKn.out _ (below_regrown _ _ _)))) | quiet_step ((first | exact regrown_same (HNs.out _) | with_reducible exact Calls.regrown_of (HFn.out _ (below_regrown _ _ _)) | with_reducible exact Calls.regrown_of (HKn.out _ (below_regrown _ _ _)))))
                refine wpQuiet_nil ?_
                intro w2 hw2
                have hbq := below_of_regrown hw2
                have hb2 := hb.trans (hbq.mono hb.size)
                have bA2 := bA.call hbq
                clear hw2 hbq kA g1
                clear g2 d0 d1 d2 d3 d4 d5 d6
                go_wp2
                exact bodyPost_ret (v := .bool false) (by simp [results, Tryz.results33, go_sem]) rfl ⟨by rw [HV.out], hb2⟩
              · replace HKn := Lib.hid (HKn.out o7)
                rw [o7] at HFn
                cases o8 : knownB x.ty f.owns
                · have HV := Lib.hid (show faceOk f = false by rw [HFO2.out, all_bad HS.out (by unfold fuOk; rw [o8]; simp)]; rfl)
                  rw [o8] at HKn
                  clear o7 o8
                  go_wp2_with fail
                  refine wp_region_quiet_below (by kernel_rfl) (by kernel_rfl) ?_
                  repeat (first | go_big_quiet_step ((first | exact regrown_same (HNs.out _) | with_reducible exact Calls.regrown_of (HFn.out _ (below_regrown _ _ _)) | with_reducible exact Calls.regrown_of (HKn.out _ (below_regrown _ _ _)))) | quiet_step ((first | exact regrown_same (HNs.out _) | with_reducible exact Calls.regrown_of (HFn.out _ (below_regrown _ _ _)) | with_reducible exact Calls.regrown_of (HKn.out _ (below_regrown _ _ _)))))
                  refine wpQuiet_nil ?_
                  intro w2 hw2
                  have hbq := below_of_regrown hw2
                  have hb2 := hb.trans (hbq.mono hb.size)
                  have bA2 := bA.call hbq
                  clear hw2 hbq kA g1
                  clear g2 d0 d1 d2 d3 d4 d5 d6
                  go_wp2
                  exact bodyPost_ret (v := .bool false) (by simp [results, Tryz.results33, go_sem]) rfl ⟨by rw [HV.out], hb2⟩
                · have HAN := Lib.hid (HA2.out.1.next HS.out (by unfold fuOk; rw [HO6.out, o7, o8]; rfl))
                  rw [o8] at HKn
                  clear o7 o8
                  go_wp2_with fail
                  refine wp_region_quiet_below (by kernel_rfl) (by kernel_rfl) ?_
                  repeat (first | go_big_quiet_step ((first | exact regrown_same (HNs.out _) | with_reducible exact Calls.regrown_of (HFn.out _ (below_regrown _ _ _)) | with_reducible exact Calls.regrown_of (HKn.out _ (below_regrown _ _ _)))) | quiet_step ((first | exact regrown_same (HNs.out _) | with_reducible exact Calls.regrown_of (HFn.out _ (below_regrown _ _ _)) | with_reducible exact Calls.regrown_of (HKn.out _ (below_regrown _ _ _)))))
                  refine wpQuiet_nil ?_
                  intro w2 hw2
                  have hbq := below_of_regrown hw2
                  have hb2 := hb.trans (hbq.mono hb.size)
                  have bA2 := bA.call hbq
                  clear hw2 hbq kA g1
                  clear g2 d0 d1 d2 d3 d4 d5 d6
                  go_wp2
                  go_roundw
                  case rel => exact ⟨1, by omega, by go_num, HAN.out, fun j x y h => absurd h (by omega), hb2, bA2⟩
                  case measure => simp [intOf]; omega
            | succ q =>
              obtain ⟨r, hr⟩ : ∃ r, f.funcs[q]? = some r := ⟨f.funcs[q]'(by omega), List.getElem?_eq_getElem (by omega)⟩
              obtain ⟨b', off', v0, v1, v2, v3, v4, v5, v6, e, -, -, hat', k0, -⟩ := rows_at7 Fu.len (HR.out.2.below hb) hr
              simp only [Option.some.injEq, Addr.mk.injEq] at e
              obtain ⟨rfl, rfl, -⟩ := e
              obtain ⟨t0, t1, t2, t3, t4, t5, t6, t7, t8, t9, t10, t11, exx, -, -⟩ := Fu.open_ hat'
              simp only [List.cons.injEq, and_true] at exx
              obtain ⟨rfl, -⟩ := exx
              have e0 := cell_regrown k0
              have HPR := Lib.hid (show (f.funcs.map Fu.name)[q]? = some r.name by simp [hr])
              have i0 : ((q + 1 : Nat) : Int) = (q : Int) + 1 := by omega
              have i1 : (q : Int) + 1 < (f.funcs.length : Int) := by omega
              have i2 : (0 : Int) ≤ (q : Int) := by omega
              have i3 : (q : Int) < (f.funcs.length : Int) := by omega
              have i4 : (0 : Int) ≤ (q : Int) + 1 := by omega
              have i5 : ((q : Int) + 1).toNat = q + 1 := by omega
              have i6 : (q : Int) + 1 - 1 = (q : Int) := by omega
              have i7 : (0 : Int) < (q : Int) + 1 := by omega
              rw [i0]
              clear hr hat' k0 hk0 hk1 i0
              cases hl : Op.bytesLess r.name.toList x.name.toList
              · have HV := Lib.hid (show faceOk f = false by rw [HFO2.out, inc_bad HPR.out HSN.out hl]; simp)
                go_wp2_with fail
                refine wp_region_quiet_below (by kernel_rfl) (by kernel_rfl) ?_
                repeat (first | go_big_quiet_step ((first | exact regrown_same (HNs.out _) | with_reducible exact Calls.regrown_of (HFn.out _ (below_regrown _ _ _)) | with_reducible exact Calls.regrown_of (HKn.out _ (below_regrown _ _ _)))) | quiet_step ((first | exact regrown_same (HNs.out _) | with_reducible exact Calls.regrown_of (HFn.out _ (below_regrown _ _ _)) | with_reducible exact Calls.regrown_of (HKn.out _ (below_regrown _ _ _)))))
                refine wpQuiet_nil ?_
                intro w2 hw2
                have hbq := below_of_regrown hw2
                have hb2 := hb.trans (hbq.mono hb.size)
                have bA2 := bA.call hbq
                clear hw2 hbq kA g1
                clear g2 d0 d1 d2 d3 d4 d5 d6 e0
                go_wp2
                exact bodyPost_ret (v := .bool false) (by simp [results, Tryz.results33, go_sem]) rfl ⟨by rw [HV.out], hb2⟩
              · have HI := Lib.hid (HA2.out.2.next HPR.out HSN.out hl)
                cases o7 : fnOk x.ty
                · have HV := Lib.hid (show faceOk f = false by rw [HFO2.out, all_bad HS.out (by unfold fuOk; rw [o7]; simp)]; rfl)
                  rw [o7] at HFn
                  clear o7
                  go_wp2_with fail
                  refine wp_region_quiet_below (by kernel_rfl) (by kernel_rfl) ?_
                  repeat (first | go_big_quiet_step ((first | exact regrown_same (HNs.out _) | with_reducible exact Calls.regrown_of (HFn.out _ (below_regrown _ _ _)) | with_reducible exact Calls.regrown_of (HKn.out _ (below_regrown _ _ _)))) | quiet_step ((first | exact regrown_same (HNs.out _) | with_reducible exact Calls.regrown_of (HFn.out _ (below_regrown _ _ _)) | with_reducible exact Calls.regrown_of (HKn.out _ (below_regrown _ _ _)))))
                  refine wpQuiet_nil ?_
                  intro w2 hw2
                  have hbq := below_of_regrown hw2
                  have hb2 := hb.trans (hbq.mono hb.size)
                  have bA2 := bA.call hbq
                  clear hw2 hbq kA g1
                  clear g2 d0 d1 d2 d3 d4 d5 d6 e0
                  go_wp2
                  exact bodyPost_ret (v := .bool false) (by simp [results, Tryz.results33, go_sem]) rfl ⟨by rw [HV.out], hb2⟩
                · replace HKn := Lib.hid (HKn.out o7)
                  rw [o7] at HFn
                  cases o8 : knownB x.ty f.owns
                  · have HV := Lib.hid (show faceOk f = false by rw [HFO2.out, all_bad HS.out (by unfold fuOk; rw [o8]; simp)]; rfl)
                    rw [o8] at HKn
                    clear o7 o8
                    go_wp2_with fail
                    refine wp_region_quiet_below (by kernel_rfl) (by kernel_rfl) ?_
                    repeat (first | go_big_quiet_step ((first | exact regrown_same (HNs.out _) | with_reducible exact Calls.regrown_of (HFn.out _ (below_regrown _ _ _)) | with_reducible exact Calls.regrown_of (HKn.out _ (below_regrown _ _ _)))) | quiet_step ((first | exact regrown_same (HNs.out _) | with_reducible exact Calls.regrown_of (HFn.out _ (below_regrown _ _ _)) | with_reducible exact Calls.regrown_of (HKn.out _ (below_regrown _ _ _)))))
                    refine wpQuiet_nil ?_
                    intro w2 hw2
                    have hbq := below_of_regrown hw2
                    have hb2 := hb.trans (hbq.mono hb.size)
                    have bA2 := bA.call hbq
                    clear hw2 hbq kA g1
                    clear g2 d0 d1 d2 d3 d4 d5 d6 e0
                    go_wp2
                    exact bodyPost_ret (v := .bool false) (by simp [results, Tryz.results33, go_sem]) rfl ⟨by rw [HV.out], hb2⟩
                  · have HAN := Lib.hid (HA2.out.1.next HS.out (by unfold fuOk; rw [HO6.out, o7, o8]; rfl))
                    rw [o8] at HKn
                    clear o7 o8
                    go_wp2_with fail
                    refine wp_region_quiet_below (by kernel_rfl) (by kernel_rfl) ?_
                    repeat (first | go_big_quiet_step ((first | exact regrown_same (HNs.out _) | with_reducible exact Calls.regrown_of (HFn.out _ (below_regrown _ _ _)) | with_reducible exact Calls.regrown_of (HKn.out _ (below_regrown _ _ _)))) | quiet_step ((first | exact regrown_same (HNs.out _) | with_reducible exact Calls.regrown_of (HFn.out _ (below_regrown _ _ _)) | with_reducible exact Calls.regrown_of (HKn.out _ (below_regrown _ _ _)))))
                    refine wpQuiet_nil ?_
                    intro w2 hw2
                    have hbq := below_of_regrown hw2
                    have hb2 := hb.trans (hbq.mono hb.size)
                    have bA2 := bA.call hbq
                    clear hw2 hbq kA g1
                    clear g2 d0 d1 d2 d3 d4 d5 d6 e0
                    go_wp2
                    go_roundw
                    case rel => exact ⟨q + 2, by omega, by go_num, HAN.out, HI.out, hb2, bA2⟩
                    case measure => simp [intOf]; omega
        · obtain rfl : q = f.funcs.length := by omega
          have HV := Lib.hid (show faceOk f = true by rw [HFO2.out, HA2.out.1.end_, inc_end (by simpa using HA2.out.2)]; rfl)
          go_wp2
          exact bodyPost_ret (v := .bool true) (by simp [results, Tryz.results33, go_sem]) rfl ⟨by rw [HV.out], hb⟩
end Go.Proofs.YtpfkhojhkjaafaaGreatDoor
