/- Whether a value fits a type: by the program. -/
import Derived.Test.YtofihcahimdbhaaGreatDoorFitK
namespace Go.Proofs.YtofihcahimdbhaaGreatDoor
open Go.RowKit

theorem blocks2 (w : World) (tA tB : TypeId) (cA cB : List Value) : ∃ w0, w0 = (w.alloc (.cells cA.toArray tA)).alloc (.cells cB.toArray tB) ∧ Below w.heap.size w w0 ∧ Box w0 w.heap.size tA cA ∧ Box w0 (w.heap.size + 1) tB cB := by
  refine ⟨_, rfl, ?_⟩
  obtain ⟨h1, h2, h3⟩ := box2 (cA := cA) (cB := cB) (Below.refl _ ((w.alloc (.cells cA.toArray tA)).alloc (.cells cB.toArray tB)))
  exact ⟨h1, h2, h3⟩
/-- A function says whether a value fits a valid type. -/
def FitFn (F : FuncId) (C : World → Prop) (v : Va) : Prop := ∀ (t : Ty), Ty.all shape t = true → ∀ (cs cs' : List Value) (w : World), C w → D.Ats w anyB v.ds cs → D.Ats w anyB t.ds cs' →
  Calls Tryz.prog F #[.agg cs.toArray, .agg cs'.toArray] w fun e w' => e = .returned (.bool (fitV v t)) ∧ Below w.heap.size w w'
theorem text_empty {s : ByteArray} (h : s.toList.isEmpty = false) : ¬ s.toList = [] := by intro e; rw [e] at h; cases h
theorem fit_text_no {k m : Int} {s : ByteArray} {vs : List Va} {n : ByteArray} {l : List ByteArray} {kids : List Ty} (h : (k == 11) = false) (he : s.toList.isEmpty = false) : fitV (.mk k m s vs) (.mk k n l kids) = false := by
  rw [fitV_of (beq_eq_false_iff_ne.1 h), he, Bool.false_and]
theorem fit_text_bad {k m : Int} {s : ByteArray} {vs : List Va} {n : ByteArray} {l : List ByteArray} {kids : List Ty} (h : textOk s = false) : fitV (.mk k m s vs) (.mk k n l kids) = false := by
  rw [fitV_mk]
  show ((k == k) && (numFits k l.length m && (((k == 11) || s.toList.isEmpty) && (textOk s && (match kts k m vs.length kids with | none => false | some ts => (ts.length == vs.length) && fitVs vs ts))))) = false
  rw [h]; simp
theorem fit_num_bad {k m : Int} {s : ByteArray} {vs : List Va} {n : ByteArray} {l : List ByteArray} {kids : List Ty} (h : numFits k l.length m = false) : fitV (.mk k m s vs) (.mk k n l kids) = false := by
  rw [fitV_mk]
  show ((k == k) && (numFits k l.length m && (((k == 11) || s.toList.isEmpty) && (textOk s && (match kts k m vs.length kids with | none => false | some ts => (ts.length == vs.length) && fitVs vs ts))))) = false
  rw [h]; simp
/-- Text and number fit: the kids tell. -/
theorem fit_rest {k m : Int} {s : ByteArray} {vs : List Va} {n : ByteArray} {l : List ByteArray} {kids ts : List Ty} (h1 : numFits k l.length m = true) (h2 : ((k == 11) || s.toList.isEmpty) = true) (h3 : textOk s = true) (h4 : kts k m vs.length kids = some ts) :
    fitV (.mk k m s vs) (.mk k n l kids) = ((ts.length == vs.length) && fitVs vs ts) := by
  rw [fitV_some h4, h1, h2, h3]; simp
set_option maxHeartbeats 8000000 in
set_option maxRecDepth 20000 in
theorem fits_i (v : Va) : FitFn 65 Tabs v := by
  refine Va.ind (fun k m s vs ih => ?_) v
  intro t hall cs cs' w hT hcs hcs'
  obtain ⟨A, c, rfl, hk, hm, hs, hvs⟩ := Va.open_ hcs
  obtain ⟨k', n, l, kids⟩ := t
  obtain ⟨A1, c1, A2, c2, rfl, hk', hn, hl, hkids⟩ := Ty.open_ hcs'
  obtain ⟨-, hln, hlc⟩ := rows_bound hl
  obtain ⟨-, hvn, hvc⟩ := rows_bound hvs
  unfold maxLen at hlc hvc
  have hsh := all_shape hall
  obtain ⟨w0, hw0, B0, bA, bB⟩ := blocks2 w 55 30 [.int .i64 k, .int .i64 m, .string s, .slice A vs.length c] [.int .i64 k', .string n, .slice A1 l.length c1, .slice A2 kids.length c2]
  have kA := bA.cell
  have kB := bB.cell
  have HB0 := Lib.hid B0
  by_cases hkk : k = k'
  · subst hkk
    have hl19 : l.length ≤ 16 ∨ k ≠ 19 := by
      by_cases h : k = 19
      · exact .inl (fit_labels hsh.1 (.inr (.inr (.inr h)))).2
      · exact .inr h
    have HNO := Lib.hid (fun W => numOk_i k m s (.slice A vs.length c) n l (.slice A2 kids.length c2) A1 c1 k W (kind_in hsh.1) hl19 (by omega) ⟨_, _, _, rfl⟩ ⟨_, _, _, rfl⟩)
    cases hnf : numFits k l.length m
    · rw [hnf] at HNO
      have HV := Lib.hid (fit_num_bad (s := s) (vs := vs) (n := n) (kids := kids) hnf)
      clear hcs hcs' hT hk hm hs hvs hk' hn hl hkids ih hall hsh hl19 hnf B0
      change Calls Tryz.prog 65 #[.agg #[.int .i64 k, .int .i64 m, .string s, .slice A vs.length c], .agg #[.int .i64 k, .string n, .slice A1 l.length c1, .slice A2 kids.length c2]] w _
      go_enter Tryz.func65, Tryz.ntmps65
      go_upto_region 1 with fail
      rw [← hw0]
      clear hw0
      go_wp2_with fail
      refine (HNO.out _).mono ?_
      rintro e w1 ⟨rfl, hb1⟩
      have HB1 := Lib.hid (HB0.out.trans (hb1.mono HB0.out.size))
      clear hb1 kA kB
      go_wp2
      go_ret
      exact ⟨ret_eq (by rw [HV.out]; try rfl), HB1.out⟩
    · rw [hnf] at HNO
      obtain ⟨ts, hts, hmem, hts16⟩ := kts_some hsh.1 hnf vs.length
      cases h11 : ((k == 11) || s.toList.isEmpty)
      · rw [Bool.or_eq_false_iff] at h11
        have HV := Lib.hid (fit_text_no (m := m) (vs := vs) (n := n) (l := l) (kids := kids) h11.1 h11.2)
        have h1 := h11.1
        have h1' : (k != 11) = true := by rw [bne, h1]; rfl
        have e1 := text_empty h11.2
        clear hcs hcs' hT hk hm hs hvs hk' hn hl hkids ih hall hsh hl19 hnf hts hmem h11 B0
        change Calls Tryz.prog 65 #[.agg #[.int .i64 k, .int .i64 m, .string s, .slice A vs.length c], .agg #[.int .i64 k, .string n, .slice A1 l.length c1, .slice A2 kids.length c2]] w _
        go_enter Tryz.func65, Tryz.ntmps65
        go_upto_region 1 with fail
        rw [← hw0]
        clear hw0
        go_wp2_with fail
        refine (HNO.out _).mono ?_
        rintro e w1 ⟨rfl, hb1⟩
        have HB1 := Lib.hid (HB0.out.trans (hb1.mono HB0.out.size))
        clear kA kB
        have bA1 := bA.call hb1
        have bB1 := bB.call hb1
        have kA := bA1.cell
        have kB := bB1.cell
        clear hb1
        go_wp2
        go_ret
        exact ⟨ret_eq (by rw [HV.out]; try rfl), HB1.out⟩
      · have hways : s.toList = [] ∨ (¬ s.toList = [] ∧ (k != 11) = false) := by
          cases he : s.toList.isEmpty
          · rw [he, Bool.or_false] at h11
            exact .inr ⟨text_empty he, by rw [bne, h11]; rfl⟩
          · exact .inl (by simpa using he)
        have HTX := Lib.hid (fun W h => textOk_i s W h)
        have HTB := Lib.hid (fun W (h : Below w.heap.size w W) => tabs_below hT h)
        have HKT := Lib.hid (fun W (h : Below w.heap.size w W) => kidTypes_i (S := anyB) k m s n l kids A A1 A2 vs.length c c1 c2 W k hsh.1 hnf (fun _ _ => trivial) (hkids.below h) ts hts)
        have HVS := Lib.hid hvs
        have HIH := Lib.hid (fun x hx y hy => ih x hx y (hsh.2 y (hmem y hy)))
        cases htx : textOk s
        · rw [htx] at HTX
          have HV := Lib.hid (fit_text_bad (k := k) (m := m) (vs := vs) (n := n) (l := l) (kids := kids) htx)
          clear hcs hcs' hT hk hm hs hvs hk' hn hl hkids ih hall hsh hl19 hnf hts hmem h11 htx B0
          change Calls Tryz.prog 65 #[.agg #[.int .i64 k, .int .i64 m, .string s, .slice A vs.length c], .agg #[.int .i64 k, .string n, .slice A1 l.length c1, .slice A2 kids.length c2]] w _
          rcases hways with ge | ⟨ge, g11⟩
          all_goals
            go_enter Tryz.func65, Tryz.ntmps65
            go_upto_region 1 with fail
            rw [← hw0]
            clear hw0
            go_wp2_with fail
            refine (HNO.out _).mono ?_
            rintro e w1 ⟨rfl, hb1⟩
            have HB1 := Lib.hid (HB0.out.trans (hb1.mono HB0.out.size))
            clear kA kB
            have bA1 := bA.call hb1
            have bB1 := bB.call hb1
            have kA := bA1.cell
            have kB := bB1.cell
            clear hb1
            go_wp2_with fail
            refine (HTX.out _ (HTB.out _ HB1.out)).mono ?_
            rintro e w2 ⟨rfl, hb2⟩
            have HB2 := Lib.hid (HB1.out.trans (hb2.mono HB1.out.size))
            clear hb2 kA kB
            go_wp2
            go_ret
            exact ⟨ret_eq (by rw [HV.out]; try rfl), HB2.out⟩
        · rw [htx] at HTX
          have HV := Lib.hid (fit_rest (n := n) (kids := kids) hnf h11 htx hts)
          clear hcs hcs' hT hk hm hs hvs hk' hn hl hkids ih hall hsh hl19 hnf hts hmem h11 htx B0
          change Calls Tryz.prog 65 #[.agg #[.int .i64 k, .int .i64 m, .string s, .slice A vs.length c], .agg #[.int .i64 k, .string n, .slice A1 l.length c1, .slice A2 kids.length c2]] w _
          rcases hways with ge | ⟨ge, g11⟩
          all_goals
            go_enter Tryz.func65, Tryz.ntmps65
            go_upto_region 1 with fail
            rw [← hw0]
            clear hw0
            go_wp2_with fail
            refine (HNO.out _).mono ?_
            rintro e w1 ⟨rfl, hb1⟩
            have HB1 := Lib.hid (HB0.out.trans (hb1.mono HB0.out.size))
            clear kA kB
            have bA1 := bA.call hb1
            have bB1 := bB.call hb1
            have kA := bA1.cell
            have kB := bB1.cell
            clear hb1
            go_wp2_with fail
            refine (HTX.out _ (HTB.out _ HB1.out)).mono ?_
            rintro e w2 ⟨rfl, hb2⟩
            have HB2 := Lib.hid (HB1.out.trans (hb2.mono HB1.out.size))
            clear kA kB
            have bA2 := bA1.call hb2
            have bB2 := bB1.call hb2
            have kA := bA2.cell
            have kB := bB2.cell
            clear hb2
            go_wp2_with fail
            refine (HKT.out _ HB2.out).mono ?_
            rintro e w3 ⟨A5, c5, rfl, hat, hb3⟩
            obtain ⟨-, hn5, hc5⟩ := rows_bound hat
            unfold maxLen at hc5
            have HB3 := Lib.hid (HB2.out.trans (hb3.mono HB2.out.size))
            have HT3 := Lib.hid hat
            clear kA kB
            have bA3 := bA2.call hb3
            have kA := bA3.cell
            clear hb3 hat bA bB bA1 bB1 bA2 bB2 ge
            by_cases hlen : ts.length = vs.length
            · have g5 : ((ts.length : Int) != (vs.length : Int)) = false := by rw [hlen]; simp
              have HL := Lib.hid hlen
              have HV2 := Lib.hid (show fitV (.mk k m s vs) (.mk k n l kids) = fitVs vs ts by rw [HV.out, hlen]; simp)
              clear hlen
              go_wp2
              clear kA bA3
              go_loopw [55] (fun i wr => ∃ q : Nat, q ≤ vs.length ∧ i = .int .i64 q ∧ FitTo vs ts q ∧ Below w3.heap.size w3 wr) (fun i _ => vs.length - (intOf i).toNat)
              case atStart => exact ⟨0, Nat.zero_le _, rfl, FitTo.zero _ _, Below.refl _ _⟩
              case round =>
                obtain ⟨q, hq, rfl, hft, hb⟩ := hrel
                by_cases hlt : q < vs.length
                · have hlt' : q < ts.length := by rw [HL.out]; exact hlt
                  obtain ⟨x, hx⟩ : ∃ x, vs[q]? = some x := ⟨vs[q], List.getElem?_eq_getElem hlt⟩
                  obtain ⟨y, hy⟩ : ∃ y, ts[q]? = some y := ⟨ts[q], List.getElem?_eq_getElem hlt'⟩
                  have i0 : (0 : Int) ≤ (q : Int) := by omega
                  have i1 : (q : Int) < (vs.length : Int) := by omega
                  have i2 : (q : Int) < (ts.length : Int) := by omega
                  have hbw := HB3.out.trans (hb.mono HB3.out.size)
                  obtain ⟨b, off, u0, u1, u2, u3, e, -, hbl, hat, d0, d1, d2, d3⟩ := rows_at4 Va.len (HVS.out.below hbw) hx
                  subst e
                  obtain ⟨f0, f1, f2, f3, f4, f5, exx⟩ := Va.form hat
                  simp only [List.cons.injEq, and_true] at exx
                  obtain ⟨rfl, rfl, rfl, rfl⟩ := exx
                  obtain ⟨b', off', v0, v1, v2, v3, e', -, hbl', hat', e0, e1, e2, e3⟩ := rows_at4 Ty.len (HT3.out.below hb) hy
                  subst e'
                  obtain ⟨g0, g1, g2, g3, g4, g5', g6, g7, eyy⟩ := Ty.form hat'
                  simp only [List.cons.injEq, and_true] at eyy
                  obtain ⟨rfl, rfl, rfl, rfl⟩ := eyy
                  obtain ⟨w5, hw5⟩ : ∃ w5, w5 = wr.alloc (.cells #[.int .i64 f0, .int .i64 f1, .string f2, .slice f3 f4 f5] 55) := ⟨_, rfl⟩
                  have B5 : Below wr.heap.size wr w5 := by rw [hw5]; exact (Below.refl _ _).alloc (Nat.le_refl _) _
                  have bX : Box w5 wr.heap.size 55 [.int .i64 f0, .int .i64 f1, .string f2, .slice f3 f4 f5] := by rw [hw5]; exact Box.new wr _ _
                  have HXY := Lib.hid (fun W (h : Below w5.heap.size w5 W) => HIH.out x (List.mem_of_getElem? hx) y (List.mem_of_getElem? hy) _ _ W (HTB.out W ((hbw.trans (B5.mono hbw.size)).trans (h.mono (Nat.le_trans hbw.size B5.size)))) ((hat.below B5).below h) ((hat'.below B5).below h))
                  have HB5 := Lib.hid (show Below w3.heap.size w3 w5 from hb.trans (B5.mono hb.size))
                  have HN := Lib.hid (And.intro hft (And.intro hx hy))
                  obtain ⟨Z, hZ⟩ : ∃ Z, fitV x y = Z := ⟨_, rfl⟩
                  simp only [hZ] at HXY
                  have HZ := Lib.hid hZ
                  go_upto_region 9 with fail
                  rw [← hw5]
                  replace e0 := cell_regrown ((B5.cell (p := ⟨b', off' + q * 4, none⟩) hbl').trans e0)
                  replace e1 := cell_regrown ((B5.cell (p := ⟨b', off' + q * 4 + 1, none⟩) hbl').trans e1)
                  replace e2 := cell_regrown ((B5.cell (p := ⟨b', off' + q * 4 + 2, none⟩) hbl').trans e2)
                  replace e3 := cell_regrown ((B5.cell (p := ⟨b', off' + q * 4 + 3, none⟩) hbl').trans e3)
                  have x0 := cell_regrown (show w5.cell? ⟨wr.heap.size, 0, none⟩ = some (.int .i64 f0) from bX.cell 0)
                  have x1 := cell_regrown (show w5.cell? ⟨wr.heap.size, 1, none⟩ = some (.int .i64 f1) from bX.cell 1)
                  have x2 := cell_regrown (show w5.cell? ⟨wr.heap.size, 2, none⟩ = some (.string f2) from bX.cell 2)
                  have x3 := cell_regrown (show w5.cell? ⟨wr.heap.size, 3, none⟩ = some (.slice f3 f4 f5) from bX.cell 3)
                  clear hw5 hZ hx hy hft hb hbw hat hat' B5 bX d0 d1 d2 d3
                  refine wp_region_quiet_below (by kernel_rfl) (by kernel_rfl) ?_
                  repeat (first | go_big_quiet_step (with_reducible exact Calls.regrown_of (HXY.out _ (below_regrown _ _ _))) | quiet_step (with_reducible exact Calls.regrown_of (HXY.out _ (below_regrown _ _ _))))
                  refine wpQuiet_nil ?_
                  intro w6 hw6
                  have HB6 := Lib.hid (HB5.out.trans ((below_of_regrown hw6).mono HB5.out.size))
                  clear hw6 e0 e1 e2 e3 x0 x1 x2 x3
                  cases Z
                  · have HF := Lib.hid (HN.out.1.bad HN.out.2.1 HN.out.2.2 HZ.out)
                    go_wp2
                    go_ret
                    exact ⟨ret_eq (by rw [HV2.out, HF.out]; try rfl), HB3.out.trans (HB6.out.mono HB3.out.size)⟩
                  · have HF := Lib.hid (HN.out.1.next HN.out.2.1 HN.out.2.2 HZ.out)
                    go_wp2
                    go_roundw
                    case rel => exact ⟨q + 1, by omega, by go_num, HF.out, HB6.out⟩
                    case measure => simp [intOf]; omega
                · obtain rfl : q = vs.length := by omega
                  have HF := Lib.hid hft.end_
                  have HB6 := Lib.hid hb
                  clear hft hb
                  go_wp2
                  go_ret
                  exact ⟨ret_eq (by rw [HV2.out, HF.out]; try rfl), HB3.out.trans (HB6.out.mono HB3.out.size)⟩
            · have g5 : ((ts.length : Int) != (vs.length : Int)) = true := by rw [bne_iff_ne]; omega
              have HV2 := Lib.hid (show fitV (.mk k m s vs) (.mk k n l kids) = false by rw [HV.out, beq_eq_false_iff_ne.2 hlen, Bool.false_and])
              clear hlen
              go_wp2
              go_ret
              exact ⟨ret_eq (by rw [HV2.out]; try rfl), HB3.out⟩
  · have HV := Lib.hid (fitV_kind (m' := m) (s := s) (vs := vs) (n := n) (l := l) (kids := kids) hkk)
    have g1 : (k == k') = false := beq_eq_false_iff_ne.2 hkk
    have g1' : (k != k') = true := by rw [bne, g1]; rfl
    clear hcs hcs' hT hk hm hs hvs hk' hn hl hkids ih hall hsh hkk B0
    change Calls Tryz.prog 65 #[.agg #[.int .i64 k, .int .i64 m, .string s, .slice A vs.length c], .agg #[.int .i64 k', .string n, .slice A1 l.length c1, .slice A2 kids.length c2]] w _
    go_enter Tryz.func65, Tryz.ntmps65
    go_upto_region 1 with fail
    rw [← hw0]
    clear hw0
    go_wp2
    go_ret
    exact ⟨ret_eq (by rw [HV.out]; try rfl), HB0.out⟩
end Go.Proofs.YtofihcahimdbhaaGreatDoor
