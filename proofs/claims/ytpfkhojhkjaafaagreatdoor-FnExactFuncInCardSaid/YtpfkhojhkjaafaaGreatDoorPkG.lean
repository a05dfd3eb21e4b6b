/- Type: how much the law counts, its deep copy, its comparison. Param: how much the law counts, its deep copy, its comparison. FuncType: how much the law counts, its deep copy, its comparison. Func: how much the law counts, its deep copy, its comparison. Face: how much the law counts, its deep copy, its comparison. -/
import Derived.Test.YtpfkhojhkjaafaaGreatDoorGStrs
import Derived.Test.YtpfkhojhkjaafaaGreatDoorTyM
namespace Go.Proofs.YtpfkhojhkjaafaaGreatDoor
open Go.RowKit

def SzType (x : Ty) : Prop := ∀ (cs : List Value) (a : Int) (w : World), D.Ats w anyB x.ds cs → 0 ≤ a → a ≤ 1048576 →
  Calls Tryz.prog 16 #[.agg cs.toArray, .int .i64 a] w fun e w' => e = .returned (.int .i64 (left a (D.totals x.ds))) ∧ Below w.heap.size w w'

set_option maxHeartbeats 1000000 in
theorem szTypeS_w (l : List Ty) (hl : ∀ x ∈ l, SzType x) (v : Value) (a : Int) (w : World) (hv : D.At w anyB (rows Ty.ds 4 l) v) (h0 : 0 ≤ a) (h1 : a ≤ 1048576) :
    Calls Tryz.prog 50 #[v, .int .i64 a] w fun e w' => e = .returned (.int .i64 (left a (rows Ty.ds 4 l).total)) ∧ Below w.heap.size w w' := by
  obtain ⟨A, cap, rfl, hn, hc⟩ := rows_form Ty.len hv
  unfold maxLen at hc
  have HV := Lib.hid hv
  have HL := Lib.hid hl
  clear hv hl
  rw [rows_total]
  by_cases hlen : (l.length : Int) ≤ a
  · go_enter Tryz.func50, Tryz.ntmps50
    go_wp2
    go_loopw [1, 5] (fun a' i wr => ∃ (k : Nat) (q : Int), k ≤ l.length ∧ i = .int .i64 k ∧ a' = .int .i64 q ∧ q = a - l.length - (D.totals ((l.take k).flatMap Ty.ds) : Int) ∧ 0 ≤ q ∧ Below w.heap.size w wr) (fun _ i _ => l.length - (intOf i).toNat)
    case atStart => exact ⟨0, _, Nat.zero_le _, rfl, rfl, by simp [D.totals], by omega, Below.refl _ _⟩
    case round =>
      obtain ⟨k, q, hk, rfl, rfl, hq, hq0, hb⟩ := hrel
      have HQ := Lib.hid hq
      have hq1 : q ≤ 1048576 := by omega
      clear hq
      by_cases hlt : k < l.length
      · obtain ⟨x, hx⟩ : ∃ x, l[k]? = some x := ⟨l[k], List.getElem?_eq_getElem hlt⟩
        obtain ⟨b, off, u0, u1, u2, u3, rfl, -, hbl, hat, c0, c1, c2, c3⟩ := rows_at4 Ty.len HV.out hx
        replace c0 := (hb.cell (p := ⟨b, off + k * 4, none⟩) hbl).trans c0
        replace c1 := (hb.cell (p := ⟨b, off + k * 4 + 1, none⟩) hbl).trans c1
        replace c2 := (hb.cell (p := ⟨b, off + k * 4 + 2, none⟩) hbl).trans c2
        replace c3 := (hb.cell (p := ⟨b, off + k * 4 + 3, none⟩) hbl).trans c3
        have hxm : x ∈ l := List.mem_of_getElem? hx
        have ht : D.totals ((l.take (k + 1)).flatMap Ty.ds) = D.totals ((l.take k).flatMap Ty.ds) + D.totals x.ds := by rw [take_next hx, D.totals_append]
        have htl := totals_take (f := Ty.ds) l (k + 1)
        have HT := Lib.hid (And.intro ht htl)
        clear ht htl hx
        go_wp2_with fail
        refine (HL.out x hxm _ q _ (hat.below hb) hq0 hq1).mono ?_
        rintro e w1 ⟨rfl, hb1⟩
        have hb2 := hb.trans (hb1.mono hb.size)
        clear hb hb1 c0 c1 c2 c3
        by_cases hle : (D.totals x.ds : Int) ≤ q
        · have hg : 0 ≤ q - (D.totals x.ds : Int) := by omega
          rw [left_yes hle]
          go_wp2
          go_roundw
          case rel =>
            refine ⟨k + 1, q - D.totals x.ds, by omega, by go_num, rfl, ?_, hg, hb2⟩
            rw [HT.out.1, HQ.out]; omega
          case measure => simp [intOf]; omega
        · rw [left_no hle]
          go_wp2
          go_ret
          refine ⟨ret_eq ?_, hb2⟩
          rw [left_no (by have := HT.out; have := HQ.out; omega)]
          rfl
      · go_wp2
        go_ret
        refine ⟨ret_eq ?_, hb⟩
        have hk' : l.take k = l := List.take_of_length_le (by omega)
        have e := HQ.out
        rw [hk'] at e
        have e2 : left a (l.length + D.totals (l.flatMap Ty.ds)) = q := by rw [left_yes (by omega)]; omega
        rw [e2]
        rfl
  · rw [left_no (by omega)]
    go_enter Tryz.func50, Tryz.ntmps50
    go_wp2
    go_ret
    exact ⟨rfl, Below.refl _ _⟩

set_option maxHeartbeats 1000000 in
theorem szType_w (x : Ty) : SzType x := by
  refine Ty.ind (fun k n l kids ih => ?_) x
  intro cs a w hcs h0 h1
  obtain ⟨AA, Ac, AA', Ac', rfl, iA0, zA1, sA2, sA3⟩ := Ty.open_ hcs
  have hT : D.totals (Ty.mk k n l kids).ds = n.size + (strs l).total + (rows Ty.ds 4 kids).total := by simp [Ty.ds_eq, D.totals, D.total] <;> omega
  have HT := Lib.hid hT
  have IH := Lib.hid ih
  have H2 := Lib.hid sA2
  have H3 := Lib.hid sA3
  unfold maxLen at zA1
  clear hT ih sA2 sA3
  by_cases g1 : (n.size : Int) ≤ a
  · skip
    go_enter Tryz.func16, Tryz.ntmps16
    go_wp2_with fail
    refine (szStringS_w l _ _ _ (H2.out.below (by repeat (first | exact Below.refl _ _ | refine Below.alloc ?_ (by first | omega | (simp <;> omega)) _))) (by omega) (by omega)).mono ?_
    rintro e w1 ⟨rfl, hb1⟩
    obtain ⟨B1, bA⟩ := box1 (cA := [_, _, _, _]) hb1
    clear hb1
    have c := bA.cell
    by_cases g2 : ((strs l).total : Int) ≤ a - (n.size : Int)
    · rw [left_yes g2]
      have e2 : ¬ (a - (n.size : Int) - ((strs l).total : Int) < 0) := by omega
      go_wp2_with fail
      refine (szTypeS_w kids IH.out _ _ _ (H3.out.below B1) (by omega) (by omega)).mono ?_
      rintro e w2 ⟨rfl, hb2⟩
      have B2 := B1.trans (hb2.mono B1.size)
      replace bA := bA.call hb2
      clear c
      clear hb2 B1
      have c := bA.cell
      by_cases g3 : ((rows Ty.ds 4 kids).total : Int) ≤ a - (n.size : Int) - ((strs l).total : Int)
      · rw [left_yes g3]
        have e3 : ¬ (a - (n.size : Int) - ((strs l).total : Int) - ((rows Ty.ds 4 kids).total : Int) < 0) := by omega
        go_wp2
        go_ret
        have e9 : left a (D.totals (Ty.mk k n l kids).ds) = a - (n.size : Int) - ((strs l).total : Int) - ((rows Ty.ds 4 kids).total : Int) := by rw [left_yes (by rw [HT.out]; omega), HT.out]; first | done | omega
        exact ⟨ret_eq (by rw [e9]; try rfl), B2⟩
      · rw [left_no g3]
        go_wp2
        go_ret
        exact ⟨ret_eq (by rw [left_no (by rw [HT.out]; omega)]; try rfl), B2⟩
    · rw [left_no g2]
      go_wp2
      go_ret
      exact ⟨ret_eq (by rw [left_no (by rw [HT.out]; omega)]; try rfl), B1⟩
  · skip
    go_enter Tryz.func16, Tryz.ntmps16
    go_wp2
    go_ret
    exact ⟨ret_eq (by rw [left_no (by rw [HT.out]; omega)]; try rfl), (by repeat (first | exact Below.refl _ _ | refine Below.alloc ?_ (by first | omega | (simp <;> omega)) _))⟩

def ToType (x : Ty) : Prop := ∀ (cs : List Value) (w : World), D.Ats w anyB x.ds cs → D.totals x.ds ≤ 1048576 → Calls Tryz.prog 19 #[.agg cs.toArray] w (RetDs x.ds w)

theorem info_iType : (Tryz.prog.info? 30).map (fun i => (i.zero, i.size, i.bytes)) = some (some (.agg #[.int .i64 0, .string ⟨#[]⟩, .slice none 0 0, .slice none 0 0]), 4, 72) := by kernel_rfl

set_option maxHeartbeats 1000000 in
theorem toTypeS_w (l : List Ty) (hl : ∀ x ∈ l, ToType x) (v : Value) (w : World) (hv : D.At w anyB (rows Ty.ds 4 l) v) (ht : (rows Ty.ds 4 l).total ≤ 1048576) :
    Calls Tryz.prog 56 #[v] w (RetD (rows Ty.ds 4 l) w) := by
  obtain ⟨A, cap, rfl, hn, hc⟩ := rows_form Ty.len hv
  unfold maxLen at hc
  rw [rows_total] at ht
  have HV := Lib.hid hv
  have HL := Lib.hid hl
  obtain ⟨i0, hi, hz0, hz1, hz2⟩ := info_parts info_iType
  obtain ⟨cur, hcs, hmk⟩ := make_fact (P := Tryz.prog) Tryz.underlying28 hi hz0 hz1 hz2 l.length (by omega) (by omega) w
  have HC := Lib.hid (Filled.start w cur 30 4 l.length hcs)
  clear hv hl hi hz0 hz1 hz2 hcs
  go_enter Tryz.func56, Tryz.ntmps56
  go_wp2
  go_loopw [4] (fun i wr => ∃ k : Nat, k ≤ l.length ∧ i = .int .i64 k ∧ Filled w wr w.heap.size 30 4 l.length k ((l.take k).flatMap Ty.ds)) (fun i _ => l.length - (intOf i).toNat)
  case atStart => exact ⟨0, Nat.zero_le _, rfl, HC.out⟩
  case round =>
    obtain ⟨k, hk, rfl, hf⟩ := hrel
    have hb := hf.below
    by_cases hlt : k < l.length
    · obtain ⟨x, hx⟩ : ∃ x, l[k]? = some x := ⟨l[k], List.getElem?_eq_getElem hlt⟩
      obtain ⟨b, off, u0, u1, u2, u3, rfl, -, hbl, hat, c0, c1, c2, c3⟩ := rows_at4 Ty.len HV.out hx
      replace c0 := (hb.cell (p := ⟨b, off + k * 4, none⟩) hbl).trans c0
      replace c1 := (hb.cell (p := ⟨b, off + k * 4 + 1, none⟩) hbl).trans c1
      replace c2 := (hb.cell (p := ⟨b, off + k * 4 + 2, none⟩) hbl).trans c2
      replace c3 := (hb.cell (p := ⟨b, off + k * 4 + 3, none⟩) hbl).trans c3
      have hxm : x ∈ l := List.mem_of_getElem? hx
      have hxt := totals_mem (f := Ty.ds) hxm
      have HD := Lib.hid (take_next (f := Ty.ds) hx)
      clear hx
      go_wp2_with fail
      refine (HL.out x hxm _ _ (hat.below hb) (by omega)).mono ?_
      rintro e w1 ⟨cs, rfl, hcs, hb1⟩
      have hf1 := hf.call hb1
      have hcs' : D.Ats w1 (fun b => w.heap.size < b) x.ds cs := hcs.weaken (fun b hb' => Nat.lt_of_lt_of_le hf.lt hb')
      clear hcs hb1 c0 c1 c2 c3 hf hb
      obtain ⟨F0, F1, F2A, F2m, F2c, F3A, F3m, F3c, rfl⟩ := Ty.form hcs'
      obtain ⟨o0, p0, q0⟩ := hf1.cells (k * 4) (by omega)
      obtain ⟨o1, p1, q1⟩ := hf1.cells (k * 4 + 1) (by omega)
      obtain ⟨o2, p2, q2⟩ := hf1.cells (k * 4 + 2) (by omega)
      obtain ⟨o3, p3, q3⟩ := hf1.cells (k * 4 + 3) (by omega)
      have HF := Lib.hid (hf1.store hlt rfl hcs')
      clear hf1 hcs'
      go_wp2
      go_roundw
      case rel => exact ⟨k + 1, by omega, by go_num, by rw [HD.out]; exact HF.out⟩
      case measure => simp [intOf]; omega
    · obtain rfl : k = l.length := by omega
      have hd := hf.done (by unfold maxLen; omega)
      have HF := Lib.hid (And.intro hd hb)
      clear hd hb hf
      go_wp2
      go_ret
      refine ⟨_, rfl, ?_, HF.out.2⟩
      have := HF.out.1
      rw [List.take_length] at this
      exact this

set_option maxHeartbeats 1000000 in
theorem toType_w (x : Ty) : ToType x := by
  refine Ty.ind (fun k n l kids ih => ?_) x
  intro cs w hcs htot
  obtain ⟨AA, Ac, AA', Ac', rfl, iA0, zA1, sA2, sA3⟩ := Ty.open_ hcs
  have hT : D.totals (Ty.mk k n l kids).ds = n.size + (strs l).total + (rows Ty.ds 4 kids).total := by simp [Ty.ds_eq, D.totals, D.total] <;> omega
  rw [hT] at htot
  have IH := Lib.hid ih
  have H2 := Lib.hid sA2
  have H3 := Lib.hid sA3
  have KiA0 := Lib.hid iA0
  have KzA1 := Lib.hid zA1
  clear hT ih sA2 sA3 iA0 zA1
  go_enter Tryz.func19, Tryz.ntmps19
  go_wp2_with fail
  refine (toStringS_w l _ _ (H2.out.below (by repeat (first | exact Below.refl _ _ | refine Below.alloc ?_ (by first | omega | (simp <;> omega)) _))) (by omega)).mono ?_
  rintro e w1 ⟨r1, rfl, q1, hb1⟩
  obtain ⟨R1A, R1c, rfl, -, -⟩ := rows_form strD_length q1
  obtain ⟨B1, bA, bB, bC⟩ := box3 (cA := [_, _, _, _]) (cB := [_, _, _, _]) (cC := [_, _, _, _]) hb1
  replace q1 := q1.weaken (S' := fun b => w.heap.size + 2 < b) (fun b hb => by simp at hb; omega)
  clear hb1
  have c := bA.cell
  have f := bC.cell
  have fz := bC.frozen
  have zz := bC.lt
  have Q1 := Lib.hid q1
  clear q1
  have q_ := True.intro
  clear q_
  have q1 := Q1.out
  clear Q1
  go_wp2_with fail
  refine (toTypeS_w kids IH.out _ _ (H3.out.below (by repeat (first | exact B1 | refine Below.setCell ?_ (by simp <;> omega) _))) (by omega)).mono ?_
  rintro e w2 ⟨r2, rfl, q2, hb2⟩
  obtain ⟨R2A, R2c, rfl, -, -⟩ := rows_form Ty.len q2
  have hsz := hb2.size
  simp at hsz
  have B2 : Below w.heap.size w w2 := Below.trans (by repeat (first | exact B1 | refine Below.setCell ?_ (by simp <;> omega) _)) (hb2.mono (by have := B1.size; simp; omega))
  have lC := bC.lt
  replace bA := (Box.set_ne (bA) (by simp <;> omega) (.slice R1A l.length R1c)).call hb2
  replace bB := (Box.set_ne (bB) (by simp <;> omega) (.slice R1A l.length R1c)).call hb2
  replace bC := ((bC.set 2 (.slice R1A l.length R1c))).call hb2
  simp only [List.set] at bC
  replace q1 := (D.At.set (q1) (by simp <;> omega) (.slice R1A l.length R1c)).below hb2
  replace q2 := q2.weaken (S' := fun b => w.heap.size + 2 < b) (fun b hb => by simp at hb; omega)
  clear hsz lC
  clear hb2 c f fz zz
  clear B1
  have c := bA.cell
  have f := bC.cell
  have fz := bC.frozen
  have zz := bC.lt
  have Q1 := Lib.hid q1
  clear q1
  have Q2 := Lib.hid q2
  clear q2
  have b := bB.cell
  have bz := bB.frozen
  go_wp2
  refine bodyPost_ret (v := .agg #[.int .i64 k, .string n, .slice R1A l.length R1c, .slice R2A kids.length R2c]) (by simp [results, Tryz.results19, go_sem, b]) rfl ⟨[.int .i64 k, .string n, .slice R1A l.length R1c, .slice R2A kids.length R2c], rfl, ?_, ?_⟩
  · refine D.Ats.weaken (S := fun b => w.heap.size + 2 < b) ?_ (fun b hb => by omega)
    repeat (refine D.Ats.set ?_ (by simp <;> omega) _)
    have p1 := Q1.out
    have p2 := Q2.out
    exact Ty.mk_ KiA0.out KzA1.out p1 p2
  · repeat (refine Below.setCell ?_ (by simp <;> omega) _)
    exact B2

set_option maxHeartbeats 1000000 in
theorem eqTypeS_w (l m : List Ty) (hl : ∀ x ∈ l, IsQ 23 Ty.ds Ty.same x) (v v' : Value) (w : World) (hv : D.At w anyB (rows Ty.ds 4 l) v) (hv' : D.At w anyB (rows Ty.ds 4 m) v') :
    Calls Tryz.prog 64 #[v, v'] w fun e w' => e = .returned (.bool (pairs Ty.same l m)) ∧ Below w.heap.size w w' := by
  obtain ⟨A, cap, rfl, hn, hc⟩ := rows_form Ty.len hv
  obtain ⟨A', cap', rfl, hn', hc'⟩ := rows_form Ty.len hv'
  unfold maxLen at hc hc'
  have HV := Lib.hid hv
  have HV' := Lib.hid hv'
  have HL := Lib.hid hl
  clear hv hv' hl
  by_cases hlm : l.length = m.length
  · have g1 : ((l.length : Int) != (m.length : Int)) = false := by simp [hlm]
    have HLM := Lib.hid hlm
    have hle : m.length ≤ l.length := by omega
    clear hlm
    go_enter Tryz.func64, Tryz.ntmps64
    go_wp2
    go_loopw [5] (fun i wr => ∃ k : Nat, k ≤ l.length ∧ i = .int .i64 k ∧ PairsTo Ty.same l m k ∧ Below w.heap.size w wr) (fun i _ => l.length - (intOf i).toNat)
    case atStart => exact ⟨0, Nat.zero_le _, rfl, PairsTo.zero _ _ _, Below.refl _ _⟩
    case round =>
      obtain ⟨k, hk, rfl, hst, hb⟩ := hrel
      by_cases hlt : k < l.length
      · obtain ⟨x, hx⟩ : ∃ x, l[k]? = some x := ⟨l[k], List.getElem?_eq_getElem hlt⟩
        obtain ⟨y, hy⟩ : ∃ y, m[k]? = some y := ⟨m[k]'(by have := HLM.out; omega), List.getElem?_eq_getElem (by have := HLM.out; omega)⟩
        have hltm : (k : Int) < (m.length : Int) := by have := HLM.out; omega
        have hk0 : (0 : Int) ≤ (k : Int) := by omega
        have hk1 : (k : Int) < (l.length : Int) := by omega
        obtain ⟨b, off, u0, u1, u2, u3, rfl, -, hbl, hat, c0, c1, c2, c3⟩ := rows_at4 Ty.len HV.out hx
        obtain ⟨b', off', v0, v1, v2, v3, rfl, -, hbl', hat', d0, d1, d2, d3⟩ := rows_at4 Ty.len HV'.out hy
        replace c0 := cell_regrown ((hb.cell (p := ⟨b, off + k * 4, none⟩) hbl).trans c0)
        replace c1 := cell_regrown ((hb.cell (p := ⟨b, off + k * 4 + 1, none⟩) hbl).trans c1)
        replace c2 := cell_regrown ((hb.cell (p := ⟨b, off + k * 4 + 2, none⟩) hbl).trans c2)
        replace c3 := cell_regrown ((hb.cell (p := ⟨b, off + k * 4 + 3, none⟩) hbl).trans c3)
        replace d0 := cell_regrown ((hb.cell (p := ⟨b', off' + k * 4, none⟩) hbl').trans d0)
        replace d1 := cell_regrown ((hb.cell (p := ⟨b', off' + k * 4 + 1, none⟩) hbl').trans d1)
        replace d2 := cell_regrown ((hb.cell (p := ⟨b', off' + k * 4 + 2, none⟩) hbl').trans d2)
        replace d3 := cell_regrown ((hb.cell (p := ⟨b', off' + k * 4 + 3, none⟩) hbl').trans d3)
        have hxm : x ∈ l := List.mem_of_getElem? hx
        have HN := Lib.hid (And.intro hx (And.intro hy hst))
        clear hx hy hst
        go_wp2_with fail
        refine wp_region_quiet_below (by kernel_rfl) (by kernel_rfl) ?_
        repeat (quiet_step (exact Calls.regrown_of (HL.out x hxm y _ _ _ ((hat.below hb).below (below_regrown _ _ _)) ((hat'.below hb).below (below_regrown _ _ _)))))
        refine wpQuiet_nil ?_
        intro w2 hw2
        have hb2 := hb.trans ((below_of_regrown hw2).mono hb.size)
        clear hw2 c0 c1 c2 c3 d0 d1 d2 d3
        cases hs : Ty.same x y
        · have HB := Lib.hid (pairs_bad HN.out.1 HN.out.2.1 hs)
          go_wp2
          go_ret
          exact ⟨ret_eq (by rw [HB.out]; rfl), hb2⟩
        · have HB := Lib.hid (HN.out.2.2.next HN.out.1 HN.out.2.1 hs)
          go_wp2
          go_roundw
          case rel => exact ⟨k + 1, by omega, by go_num, HB.out, hb2⟩
          case measure => simp [intOf]; omega
      · obtain rfl : k = l.length := by omega
        have HB := Lib.hid (PairsTo.end_ HLM.out hst)
        go_wp2
        go_ret
        exact ⟨ret_eq (by rw [HB.out]; rfl), hb⟩
  · have g1 : ((l.length : Int) != (m.length : Int)) = true := by rw [bne_iff_ne]; omega
    rw [pairs_len hlm]
    go_enter Tryz.func64, Tryz.ntmps64
    go_wp2
    go_ret
    exact ⟨rfl, Below.refl _ _⟩

set_option maxHeartbeats 1000000 in
theorem eqType_w (x : Ty) : IsQ 23 Ty.ds Ty.same x := by
  refine Ty.ind (fun k n l kids ih => ?_) x
  intro y cs cs' w hcs hcs'
  obtain ⟨k', n', l', kids'⟩ := y
  obtain ⟨AA, Ac, AA', Ac', rfl, iA0, zA1, sA2, sA3⟩ := Ty.open_ hcs
  obtain ⟨BA, Bc, BA', Bc', rfl, iB0, zB1, sB2, sB3⟩ := Ty.open_ hcs'
  have hE : Ty.same (Ty.mk k n l kids) (Ty.mk k' n' l' kids') = ((k == k') && ((n.toList == n'.toList) && (pairs sameS l l' && (pairs Ty.same kids kids')))) := Ty.same_eq _ _ _ _ _ _ _ _
  have HE := Lib.hid hE
  have IH := Lib.hid ih
  have H2 := Lib.hid (And.intro sA2 sB2)
  have H3 := Lib.hid (And.intro sA3 sB3)
  clear hE ih iA0 iB0 zA1 zB1 sA2 sB2 sA3 sB3
  show Calls Tryz.prog 23 _ _ (fun e w' => e = .returned (.bool (Ty.same (Ty.mk k n l kids) (Ty.mk k' n' l' kids'))) ∧ Below w.heap.size w w')
  cases h0 : (k == k')
  · have g0 : (k != k') = true := by simp [bne, h0]
    have E0 := Lib.hid h0
    go_enter Tryz.func23, Tryz.ntmps23
    go_wp2
    go_ret
    exact ⟨ret_eq (by rw [HE.out, E0.out]; try rfl), (by repeat (first | exact Below.refl _ _ | refine Below.alloc ?_ (by first | omega | (simp <;> omega)) _))⟩
  · have g0 : (k != k') = false := by simp [bne, h0]
    have E0 := Lib.hid h0
    cases h1 : (n.toList == n'.toList)
    · have g1 : (n.toList != n'.toList) = true := by simp [bne, h1]
      have E1 := Lib.hid h1
      go_enter Tryz.func23, Tryz.ntmps23
      go_wp2
      go_ret
      exact ⟨ret_eq (by rw [HE.out, E0.out, E1.out]; try rfl), (by repeat (first | exact Below.refl _ _ | refine Below.alloc ?_ (by first | omega | (simp <;> omega)) _))⟩
    · have g1 : (n.toList != n'.toList) = false := by simp [bne, h1]
      have E1 := Lib.hid h1
      go_enter Tryz.func23, Tryz.ntmps23
      go_wp2_with fail
      refine (eqStringS_w l l' _ _ _ (H2.out.1.below (by repeat (first | exact Below.refl _ _ | refine Below.alloc ?_ (by first | omega | (simp <;> omega)) _))) (H2.out.2.below (by repeat (first | exact Below.refl _ _ | refine Below.alloc ?_ (by first | omega | (simp <;> omega)) _)))).mono ?_
      rintro e w1 ⟨rfl, hb1⟩
      obtain ⟨B1, bA, bB⟩ := box2 (cA := [_, _, _, _]) (cB := [_, _, _, _]) hb1
      clear hb1
      have c := bA.cell
      have d := bB.cell
      cases h2 : pairs sameS l l'
      · have E2 := Lib.hid h2
        clear h2
        go_wp2
        go_ret
        exact ⟨ret_eq (by rw [HE.out, E0.out, E1.out, E2.out]; try rfl), B1⟩
      · have E2 := Lib.hid h2
        clear h2
        go_wp2_with fail
        refine (eqTypeS_w kids kids' IH.out _ _ _ (H3.out.1.below B1) (H3.out.2.below B1)).mono ?_
        rintro e w2 ⟨rfl, hb2⟩
        have B2 := B1.trans (hb2.mono B1.size)
        replace bA := bA.call hb2
        replace bB := bB.call hb2
        clear c d B1
        clear hb2
        have c := bA.cell
        have d := bB.cell
        cases h3 : pairs Ty.same kids kids'
        · have E3 := Lib.hid h3
          clear h3
          go_wp2
          go_ret
          exact ⟨ret_eq (by rw [HE.out, E0.out, E1.out, E2.out, E3.out]; try rfl), B2⟩
        · have E3 := Lib.hid h3
          clear h3
          go_wp2
          go_ret
          exact ⟨ret_eq (by rw [HE.out, E0.out, E1.out, E2.out, E3.out]; try rfl), B2⟩

end Go.Proofs.YtpfkhojhkjaafaaGreatDoor
namespace Go.Proofs.YtpfkhojhkjaafaaGreatDoor
open Go.RowKit

def SzParam (x : Pa) : Prop := ∀ (cs : List Value) (a : Int) (w : World), D.Ats w anyB x.ds cs → 0 ≤ a → a ≤ 1048576 →
  Calls Tryz.prog 184 #[.agg cs.toArray, .int .i64 a] w fun e w' => e = .returned (.int .i64 (left a (D.totals x.ds))) ∧ Below w.heap.size w w'

set_option maxHeartbeats 1000000 in
theorem szParam_w (x : Pa) : SzParam x := by
  intro cs a w hcs h0 h1
  obtain ⟨A0, A1, A2A, A2m, A2c, A3A, A3m, A3c, rfl, zA0, sA1⟩ := Pa.open_ hcs
  have hT : D.totals x.ds = x.name.size + D.totals x.ty.ds := by simp [Pa.ds, D.totals, D.total]
  have HT := Lib.hid hT
  have H1 := Lib.hid sA1
  unfold maxLen at zA0
  clear hT sA1
  by_cases g0 : (x.name.size : Int) ≤ a
  · skip
    go_enter Tryz.func184, Tryz.ntmps184
    go_wp2_with fail
    refine (szType_w x.ty _ _ _ (H1.out.below (by repeat (first | exact Below.refl _ _ | refine Below.alloc ?_ (by first | omega | (simp <;> omega)) _))) (by omega) (by omega)).mono ?_
    rintro e w1 ⟨rfl, hb1⟩
    obtain ⟨B1, bA⟩ := box1 (cA := [_, _, _, _, _]) hb1
    clear hb1
    have c := bA.cell
    by_cases g1 : (D.totals x.ty.ds : Int) ≤ a - (x.name.size : Int)
    · rw [left_yes g1]
      have e1 : ¬ (a - (x.name.size : Int) - (D.totals x.ty.ds : Int) < 0) := by omega
      go_wp2
      go_ret
      have e9 : left a (D.totals x.ds) = a - (x.name.size : Int) - (D.totals x.ty.ds : Int) := by rw [left_yes (by rw [HT.out]; omega), HT.out]; first | done | omega
      exact ⟨ret_eq (by rw [e9]; try rfl), B1⟩
    · rw [left_no g1]
      go_wp2
      go_ret
      exact ⟨ret_eq (by rw [left_no (by rw [HT.out]; omega)]; try rfl), B1⟩
  · skip
    go_enter Tryz.func184, Tryz.ntmps184
    go_wp2
    go_ret
    exact ⟨ret_eq (by rw [left_no (by rw [HT.out]; omega)]; try rfl), (by repeat (first | exact Below.refl _ _ | refine Below.alloc ?_ (by first | omega | (simp <;> omega)) _))⟩

set_option maxHeartbeats 1000000 in
theorem szParamS_w (l : List Pa) (hl : ∀ x ∈ l, SzParam x) (v : Value) (a : Int) (w : World) (hv : D.At w anyB (rows Pa.ds 5 l) v) (h0 : 0 ≤ a) (h1 : a ≤ 1048576) :
    Calls Tryz.prog 158 #[v, .int .i64 a] w fun e w' => e = .returned (.int .i64 (left a (rows Pa.ds 5 l).total)) ∧ Below w.heap.size w w' := by
  obtain ⟨A, cap, rfl, hn, hc⟩ := rows_form Pa.len hv
  unfold maxLen at hc
  have HV := Lib.hid hv
  have HL := Lib.hid hl
  clear hv hl
  rw [rows_total]
  by_cases hlen : (l.length : Int) ≤ a
  · go_enter Tryz.func158, Tryz.ntmps158
    go_wp2
    go_loopw [1, 5] (fun a' i wr => ∃ (k : Nat) (q : Int), k ≤ l.length ∧ i = .int .i64 k ∧ a' = .int .i64 q ∧ q = a - l.length - (D.totals ((l.take k).flatMap Pa.ds) : Int) ∧ 0 ≤ q ∧ Below w.heap.size w wr) (fun _ i _ => l.length - (intOf i).toNat)
    case atStart => exact ⟨0, _, Nat.zero_le _, rfl, rfl, by simp [D.totals], by omega, Below.refl _ _⟩
    case round =>
      obtain ⟨k, q, hk, rfl, rfl, hq, hq0, hb⟩ := hrel
      have HQ := Lib.hid hq
      have hq1 : q ≤ 1048576 := by omega
      clear hq
      by_cases hlt : k < l.length
      · obtain ⟨x, hx⟩ : ∃ x, l[k]? = some x := ⟨l[k], List.getElem?_eq_getElem hlt⟩
        obtain ⟨b, off, u0, u1, u2, u3, u4, rfl, -, hbl, hat, c0, c1, c2, c3, c4⟩ := rows_at5 Pa.len HV.out hx
        replace c0 := (hb.cell (p := ⟨b, off + k * 5, none⟩) hbl).trans c0
        replace c1 := (hb.cell (p := ⟨b, off + k * 5 + 1, none⟩) hbl).trans c1
        replace c2 := (hb.cell (p := ⟨b, off + k * 5 + 2, none⟩) hbl).trans c2
        replace c3 := (hb.cell (p := ⟨b, off + k * 5 + 3, none⟩) hbl).trans c3
        replace c4 := (hb.cell (p := ⟨b, off + k * 5 + 4, none⟩) hbl).trans c4
        have hxm : x ∈ l := List.mem_of_getElem? hx
        have ht : D.totals ((l.take (k + 1)).flatMap Pa.ds) = D.totals ((l.take k).flatMap Pa.ds) + D.totals x.ds := by rw [take_next hx, D.totals_append]
        have htl := totals_take (f := Pa.ds) l (k + 1)
        have HT := Lib.hid (And.intro ht htl)
        clear ht htl hx
        go_wp2_with fail
        refine (HL.out x hxm _ q _ (hat.below hb) hq0 hq1).mono ?_
        rintro e w1 ⟨rfl, hb1⟩
        have hb2 := hb.trans (hb1.mono hb.size)
        clear hb hb1 c0 c1 c2 c3 c4
        by_cases hle : (D.totals x.ds : Int) ≤ q
        · have hg : 0 ≤ q - (D.totals x.ds : Int) := by omega
          rw [left_yes hle]
          go_wp2
          go_roundw
          case rel =>
            refine ⟨k + 1, q - D.totals x.ds, by omega, by go_num, rfl, ?_, hg, hb2⟩
            rw [HT.out.1, HQ.out]; omega
          case measure => simp [intOf]; omega
        · rw [left_no hle]
          go_wp2
          go_ret
          refine ⟨ret_eq ?_, hb2⟩
          rw [left_no (by have := HT.out; have := HQ.out; omega)]
          rfl
      · go_wp2
        go_ret
        refine ⟨ret_eq ?_, hb⟩
        have hk' : l.take k = l := List.take_of_length_le (by omega)
        have e := HQ.out
        rw [hk'] at e
        have e2 : left a (l.length + D.totals (l.flatMap Pa.ds)) = q := by rw [left_yes (by omega)]; omega
        rw [e2]
        rfl
  · rw [left_no (by omega)]
    go_enter Tryz.func158, Tryz.ntmps158
    go_wp2
    go_ret
    exact ⟨rfl, Below.refl _ _⟩

def ToParam (x : Pa) : Prop := ∀ (cs : List Value) (w : World), D.Ats w anyB x.ds cs → D.totals x.ds ≤ 1048576 → Calls Tryz.prog 187 #[.agg cs.toArray] w (RetDs x.ds w)

set_option maxHeartbeats 1000000 in
theorem toParam_w (x : Pa) : ToParam x := by
  intro cs w hcs htot
  obtain ⟨A0, A1, A2A, A2m, A2c, A3A, A3m, A3c, rfl, zA0, sA1⟩ := Pa.open_ hcs
  have hT : D.totals x.ds = x.name.size + D.totals x.ty.ds := by simp [Pa.ds, D.totals, D.total]
  rw [hT] at htot
  have H1 := Lib.hid sA1
  have KzA0 := Lib.hid zA0
  clear hT sA1 zA0
  go_enter Tryz.func187, Tryz.ntmps187
  go_wp2_with fail
  refine (toType_w x.ty _ _ (H1.out.below (by repeat (first | exact Below.refl _ _ | refine Below.alloc ?_ (by first | omega | (simp <;> omega)) _))) (by omega)).mono ?_
  rintro e w1 ⟨r1, rfl, q1, hb1⟩
  obtain ⟨R10, R11, R12A, R12m, R12c, R13A, R13m, R13c, rfl⟩ := Ty.form q1
  obtain ⟨B1, bA, bB, bC⟩ := box3 (cA := [_, _, _, _, _]) (cB := [_, _, _, _, _]) (cC := [_, _, _, _, _]) hb1
  replace q1 := q1.weaken (S' := fun b => w.heap.size + 2 < b) (fun b hb => by simp at hb; omega)
  clear hb1
  have c := bA.cell
  have f := bC.cell
  have fz := bC.frozen
  have zz := bC.lt
  have Q1 := Lib.hid q1
  clear q1
  have b := bB.cell
  have bz := bB.frozen
  go_wp2
  refine bodyPost_ret (v := .agg #[.string x.name, .int .i64 R10, .string R11, .slice R12A R12m R12c, .slice R13A R13m R13c]) (by simp [results, Tryz.results187, go_sem, b]) rfl ⟨[.string x.name, .int .i64 R10, .string R11, .slice R12A R12m R12c, .slice R13A R13m R13c], rfl, ?_, ?_⟩
  · refine D.Ats.weaken (S := fun b => w.heap.size + 2 < b) ?_ (fun b hb => by omega)
    repeat (refine D.Ats.set ?_ (by simp <;> omega) _)
    have p1 := Q1.out
    exact Pa.mk_ KzA0.out p1
  · repeat (refine Below.setCell ?_ (by simp <;> omega) _)
    exact B1

theorem info_iParam : (Tryz.prog.info? 113).map (fun i => (i.zero, i.size, i.bytes)) = some (some (.agg #[.string ⟨#[]⟩, .int .i64 0, .string ⟨#[]⟩, .slice none 0 0, .slice none 0 0]), 5, 88) := by kernel_rfl

set_option maxHeartbeats 1000000 in
theorem toParamS_w (l : List Pa) (hl : ∀ x ∈ l, ToParam x) (v : Value) (w : World) (hv : D.At w anyB (rows Pa.ds 5 l) v) (ht : (rows Pa.ds 5 l).total ≤ 1048576) :
    Calls Tryz.prog 163 #[v] w (RetD (rows Pa.ds 5 l) w) := by
  obtain ⟨A, cap, rfl, hn, hc⟩ := rows_form Pa.len hv
  unfold maxLen at hc
  rw [rows_total] at ht
  have HV := Lib.hid hv
  have HL := Lib.hid hl
  obtain ⟨i0, hi, hz0, hz1, hz2⟩ := info_parts info_iParam
  obtain ⟨cur, hcs, hmk⟩ := make_fact (P := Tryz.prog) Tryz.underlying27 hi hz0 hz1 hz2 l.length (by omega) (by omega) w
  have HC := Lib.hid (Filled.start w cur 113 5 l.length hcs)
  clear hv hl hi hz0 hz1 hz2 hcs
  go_enter Tryz.func163, Tryz.ntmps163
  go_wp2
  go_loopw [4] (fun i wr => ∃ k : Nat, k ≤ l.length ∧ i = .int .i64 k ∧ Filled w wr w.heap.size 113 5 l.length k ((l.take k).flatMap Pa.ds)) (fun i _ => l.length - (intOf i).toNat)
  case atStart => exact ⟨0, Nat.zero_le _, rfl, HC.out⟩
  case round =>
    obtain ⟨k, hk, rfl, hf⟩ := hrel
    have hb := hf.below
    by_cases hlt : k < l.length
    · obtain ⟨x, hx⟩ : ∃ x, l[k]? = some x := ⟨l[k], List.getElem?_eq_getElem hlt⟩
      obtain ⟨b, off, u0, u1, u2, u3, u4, rfl, -, hbl, hat, c0, c1, c2, c3, c4⟩ := rows_at5 Pa.len HV.out hx
      replace c0 := (hb.cell (p := ⟨b, off + k * 5, none⟩) hbl).trans c0
      replace c1 := (hb.cell (p := ⟨b, off + k * 5 + 1, none⟩) hbl).trans c1
      replace c2 := (hb.cell (p := ⟨b, off + k * 5 + 2, none⟩) hbl).trans c2
      replace c3 := (hb.cell (p := ⟨b, off + k * 5 + 3, none⟩) hbl).trans c3
      replace c4 := (hb.cell (p := ⟨b, off + k * 5 + 4, none⟩) hbl).trans c4
      have hxm : x ∈ l := List.mem_of_getElem? hx
      have hxt := totals_mem (f := Pa.ds) hxm
      have HD := Lib.hid (take_next (f := Pa.ds) hx)
      clear hx
      go_wp2_with fail
      refine (HL.out x hxm _ _ (hat.below hb) (by omega)).mono ?_
      rintro e w1 ⟨cs, rfl, hcs, hb1⟩
      have hf1 := hf.call hb1
      have hcs' : D.Ats w1 (fun b => w.heap.size < b) x.ds cs := hcs.weaken (fun b hb' => Nat.lt_of_lt_of_le hf.lt hb')
      clear hcs hb1 c0 c1 c2 c3 c4 hf hb
      obtain ⟨F0, F1, F2, F3A, F3m, F3c, F4A, F4m, F4c, rfl⟩ := Pa.form hcs'
      obtain ⟨o0, p0, q0⟩ := hf1.cells (k * 5) (by omega)
      obtain ⟨o1, p1, q1⟩ := hf1.cells (k * 5 + 1) (by omega)
      obtain ⟨o2, p2, q2⟩ := hf1.cells (k * 5 + 2) (by omega)
      obtain ⟨o3, p3, q3⟩ := hf1.cells (k * 5 + 3) (by omega)
      obtain ⟨o4, p4, q4⟩ := hf1.cells (k * 5 + 4) (by omega)
      have HF := Lib.hid (hf1.store hlt rfl hcs')
      clear hf1 hcs'
      go_wp2
      go_roundw
      case rel => exact ⟨k + 1, by omega, by go_num, by rw [HD.out]; exact HF.out⟩
      case measure => simp [intOf]; omega
    · obtain rfl : k = l.length := by omega
      have hd := hf.done (by unfold maxLen; omega)
      have HF := Lib.hid (And.intro hd hb)
      clear hd hb hf
      go_wp2
      go_ret
      refine ⟨_, rfl, ?_, HF.out.2⟩
      have := HF.out.1
      rw [List.take_length] at this
      exact this

set_option maxHeartbeats 1000000 in
theorem eqParam_w (x : Pa) : IsQ 89 Pa.ds Pa.same x := by
  intro y cs cs' w hcs hcs'
  obtain ⟨A0, A1, A2A, A2m, A2c, A3A, A3m, A3c, rfl, zA0, sA1⟩ := Pa.open_ hcs
  obtain ⟨B0, B1, B2A, B2m, B2c, B3A, B3m, B3c, rfl, zB0, sB1⟩ := Pa.open_ hcs'
  have hE : Pa.same x y = ((x.name.toList == y.name.toList) && (Ty.same x.ty y.ty)) := Pa.same_eq _ _
  have HE := Lib.hid hE
  have H1 := Lib.hid (And.intro sA1 sB1)
  clear hE zA0 zB0 sA1 sB1
  show Calls Tryz.prog 89 _ _ (fun e w' => e = .returned (.bool (Pa.same x y)) ∧ Below w.heap.size w w')
  cases h0 : (x.name.toList == y.name.toList)
  · have g0 : (x.name.toList != y.name.toList) = true := by simp [bne, h0]
    have E0 := Lib.hid h0
    go_enter Tryz.func89, Tryz.ntmps89
    go_wp2
    go_ret
    exact ⟨ret_eq (by rw [HE.out, E0.out]; try rfl), (by repeat (first | exact Below.refl _ _ | refine Below.alloc ?_ (by first | omega | (simp <;> omega)) _))⟩
  · have g0 : (x.name.toList != y.name.toList) = false := by simp [bne, h0]
    have E0 := Lib.hid h0
    go_enter Tryz.func89, Tryz.ntmps89
    go_wp2_with fail
    refine (eqType_w x.ty y.ty _ _ _ (H1.out.1.below (by repeat (first | exact Below.refl _ _ | refine Below.alloc ?_ (by first | omega | (simp <;> omega)) _))) (H1.out.2.below (by repeat (first | exact Below.refl _ _ | refine Below.alloc ?_ (by first | omega | (simp <;> omega)) _)))).mono ?_
    rintro e w1 ⟨rfl, hb1⟩
    obtain ⟨B1, bA, bB⟩ := box2 (cA := [_, _, _, _, _]) (cB := [_, _, _, _, _]) hb1
    clear hb1
    have c := bA.cell
    have d := bB.cell
    cases h1 : Ty.same x.ty y.ty
    · have E1 := Lib.hid h1
      clear h1
      go_wp2
      go_ret
      exact ⟨ret_eq (by rw [HE.out, E0.out, E1.out]; try rfl), B1⟩
    · have E1 := Lib.hid h1
      clear h1
      go_wp2
      go_ret
      exact ⟨ret_eq (by rw [HE.out, E0.out, E1.out]; try rfl), B1⟩

set_option maxHeartbeats 1000000 in
theorem eqParamS_w (l m : List Pa) (hl : ∀ x ∈ l, IsQ 89 Pa.ds Pa.same x) (v v' : Value) (w : World) (hv : D.At w anyB (rows Pa.ds 5 l) v) (hv' : D.At w anyB (rows Pa.ds 5 m) v') :
    Calls Tryz.prog 41 #[v, v'] w fun e w' => e = .returned (.bool (pairs Pa.same l m)) ∧ Below w.heap.size w w' := by
  obtain ⟨A, cap, rfl, hn, hc⟩ := rows_form Pa.len hv
  obtain ⟨A', cap', rfl, hn', hc'⟩ := rows_form Pa.len hv'
  unfold maxLen at hc hc'
  have HV := Lib.hid hv
  have HV' := Lib.hid hv'
  have HL := Lib.hid hl
  clear hv hv' hl
  by_cases hlm : l.length = m.length
  · have g1 : ((l.length : Int) != (m.length : Int)) = false := by simp [hlm]
    have HLM := Lib.hid hlm
    have hle : m.length ≤ l.length := by omega
    clear hlm
    go_enter Tryz.func41, Tryz.ntmps41
    go_wp2
    go_loopw [5] (fun i wr => ∃ k : Nat, k ≤ l.length ∧ i = .int .i64 k ∧ PairsTo Pa.same l m k ∧ Below w.heap.size w wr) (fun i _ => l.length - (intOf i).toNat)
    case atStart => exact ⟨0, Nat.zero_le _, rfl, PairsTo.zero _ _ _, Below.refl _ _⟩
    case round =>
      obtain ⟨k, hk, rfl, hst, hb⟩ := hrel
      by_cases hlt : k < l.length
      · obtain ⟨x, hx⟩ : ∃ x, l[k]? = some x := ⟨l[k], List.getElem?_eq_getElem hlt⟩
        obtain ⟨y, hy⟩ : ∃ y, m[k]? = some y := ⟨m[k]'(by have := HLM.out; omega), List.getElem?_eq_getElem (by have := HLM.out; omega)⟩
        have hltm : (k : Int) < (m.length : Int) := by have := HLM.out; omega
        have hk0 : (0 : Int) ≤ (k : Int) := by omega
        have hk1 : (k : Int) < (l.length : Int) := by omega
        obtain ⟨b, off, u0, u1, u2, u3, u4, rfl, -, hbl, hat, c0, c1, c2, c3, c4⟩ := rows_at5 Pa.len HV.out hx
        obtain ⟨b', off', v0, v1, v2, v3, v4, rfl, -, hbl', hat', d0, d1, d2, d3, d4⟩ := rows_at5 Pa.len HV'.out hy
        replace c0 := cell_regrown ((hb.cell (p := ⟨b, off + k * 5, none⟩) hbl).trans c0)
        replace c1 := cell_regrown ((hb.cell (p := ⟨b, off + k * 5 + 1, none⟩) hbl).trans c1)
        replace c2 := cell_regrown ((hb.cell (p := ⟨b, off + k * 5 + 2, none⟩) hbl).trans c2)
        replace c3 := cell_regrown ((hb.cell (p := ⟨b, off + k * 5 + 3, none⟩) hbl).trans c3)
        replace c4 := cell_regrown ((hb.cell (p := ⟨b, off + k * 5 + 4, none⟩) hbl).trans c4)
        replace d0 := cell_regrown ((hb.cell (p := ⟨b', off' + k * 5, none⟩) hbl').trans d0)
        replace d1 := cell_regrown ((hb.cell (p := ⟨b', off' + k * 5 + 1, none⟩) hbl').trans d1)
        replace d2 := cell_regrown ((hb.cell (p := ⟨b', off' + k * 5 + 2, none⟩) hbl').trans d2)
        replace d3 := cell_regrown ((hb.cell (p := ⟨b', off' + k * 5 + 3, none⟩) hbl').trans d3)
        replace d4 := cell_regrown ((hb.cell (p := ⟨b', off' + k * 5 + 4, none⟩) hbl').trans d4)
        have hxm : x ∈ l := List.mem_of_getElem? hx
        have HN := Lib.hid (And.intro hx (And.intro hy hst))
        clear hx hy hst
        go_wp2_with fail
        refine wp_region_quiet_below (by kernel_rfl) (by kernel_rfl) ?_
        repeat (quiet_step (exact Calls.regrown_of (HL.out x hxm y _ _ _ ((hat.below hb).below (below_regrown _ _ _)) ((hat'.below hb).below (below_regrown _ _ _)))))
        refine wpQuiet_nil ?_
        intro w2 hw2
        have hb2 := hb.trans ((below_of_regrown hw2).mono hb.size)
        clear hw2 c0 c1 c2 c3 c4 d0 d1 d2 d3 d4
        cases hs : Pa.same x y
        · have HB := Lib.hid (pairs_bad HN.out.1 HN.out.2.1 hs)
          go_wp2
          go_ret
          exact ⟨ret_eq (by rw [HB.out]; rfl), hb2⟩
        · have HB := Lib.hid (HN.out.2.2.next HN.out.1 HN.out.2.1 hs)
          go_wp2
          go_roundw
          case rel => exact ⟨k + 1, by omega, by go_num, HB.out, hb2⟩
          case measure => simp [intOf]; omega
      · obtain rfl : k = l.length := by omega
        have HB := Lib.hid (PairsTo.end_ HLM.out hst)
        go_wp2
        go_ret
        exact ⟨ret_eq (by rw [HB.out]; rfl), hb⟩
  · have g1 : ((l.length : Int) != (m.length : Int)) = true := by rw [bne_iff_ne]; omega
    rw [pairs_len hlm]
    go_enter Tryz.func41, Tryz.ntmps41
    go_wp2
    go_ret
    exact ⟨rfl, Below.refl _ _⟩

end Go.Proofs.YtpfkhojhkjaafaaGreatDoor
namespace Go.Proofs.YtpfkhojhkjaafaaGreatDoor
open Go.RowKit

def SzFuncType (x : Fn) : Prop := ∀ (cs : List Value) (a : Int) (w : World), D.Ats w anyB x.ds cs → 0 ≤ a → a ≤ 1048576 →
  Calls Tryz.prog 123 #[.agg cs.toArray, .int .i64 a] w fun e w' => e = .returned (.int .i64 (left a (D.totals x.ds))) ∧ Below w.heap.size w w'

set_option maxHeartbeats 1000000 in
theorem szFuncType_w (x : Fn) : SzFuncType x := by
  intro cs a w hcs h0 h1
  obtain ⟨AB, Ad, A0, A1, A2A, A2m, A2c, A3A, A3m, A3c, rfl, sA0, sA1⟩ := Fn.open_ hcs
  have hT : D.totals x.ds = (rows Pa.ds 5 x.params).total + D.totals x.res.ds := by simp [Fn.ds, D.totals, D.total, D.totals_append] <;> omega
  have HT := Lib.hid hT
  have H0 := Lib.hid sA0
  have H1 := Lib.hid sA1
  clear hT sA0 sA1
  go_enter Tryz.func123, Tryz.ntmps123
  go_wp2_with fail
  refine (szParamS_w x.params (fun x _ => szParam_w x) _ _ _ (H0.out.below (by repeat (first | exact Below.refl _ _ | refine Below.alloc ?_ (by first | omega | (simp <;> omega)) _))) (by omega) (by omega)).mono ?_
  rintro e w1 ⟨rfl, hb1⟩
  obtain ⟨B1, bA⟩ := box1 (cA := [_, _, _, _, _, _]) hb1
  clear hb1
  have c := bA.cell
  by_cases g0 : ((rows Pa.ds 5 x.params).total : Int) ≤ a
  · rw [left_yes g0]
    have e0 : ¬ (a - ((rows Pa.ds 5 x.params).total : Int) < 0) := by omega
    go_wp2_with fail
    refine (szType_w x.res _ _ _ (H1.out.below B1) (by omega) (by omega)).mono ?_
    rintro e w2 ⟨rfl, hb2⟩
    have B2 := B1.trans (hb2.mono B1.size)
    replace bA := bA.call hb2
    clear c
    clear hb2 B1
    have c := bA.cell
    by_cases g1 : (D.totals x.res.ds : Int) ≤ a - ((rows Pa.ds 5 x.params).total : Int)
    · rw [left_yes g1]
      have e1 : ¬ (a - ((rows Pa.ds 5 x.params).total : Int) - (D.totals x.res.ds : Int) < 0) := by omega
      go_wp2
      go_ret
      have e9 : left a (D.totals x.ds) = a - ((rows Pa.ds 5 x.params).total : Int) - (D.totals x.res.ds : Int) := by rw [left_yes (by rw [HT.out]; omega), HT.out]; first | done | omega
      exact ⟨ret_eq (by rw [e9]; try rfl), B2⟩
    · rw [left_no g1]
      go_wp2
      go_ret
      exact ⟨ret_eq (by rw [left_no (by rw [HT.out]; omega)]; try rfl), B2⟩
  · rw [left_no g0]
    go_wp2
    go_ret
    exact ⟨ret_eq (by rw [left_no (by rw [HT.out]; omega)]; try rfl), B1⟩

def ToFuncType (x : Fn) : Prop := ∀ (cs : List Value) (w : World), D.Ats w anyB x.ds cs → D.totals x.ds ≤ 1048576 → Calls Tryz.prog 128 #[.agg cs.toArray] w (RetDs x.ds w)

set_option maxHeartbeats 1000000 in
theorem toFuncType_w (x : Fn) : ToFuncType x := by
  intro cs w hcs htot
  obtain ⟨AB, Ad, A0, A1, A2A, A2m, A2c, A3A, A3m, A3c, rfl, sA0, sA1⟩ := Fn.open_ hcs
  have hT : D.totals x.ds = (rows Pa.ds 5 x.params).total + D.totals x.res.ds := by simp [Fn.ds, D.totals, D.total, D.totals_append] <;> omega
  rw [hT] at htot
  have H0 := Lib.hid sA0
  have H1 := Lib.hid sA1
  clear hT sA0 sA1
  go_enter Tryz.func128, Tryz.ntmps128
  go_wp2_with fail
  refine (toParamS_w x.params (fun x _ => toParam_w x) _ _ (H0.out.below (by repeat (first | exact Below.refl _ _ | refine Below.alloc ?_ (by first | omega | (simp <;> omega)) _))) (by omega)).mono ?_
  rintro e w1 ⟨r1, rfl, q1, hb1⟩
  obtain ⟨R1A, R1c, rfl, -, -⟩ := rows_form Pa.len q1
  obtain ⟨B1, bA, bB, bC⟩ := box3 (cA := [_, _, _, _, _, _]) (cB := [_, _, _, _, _, _]) (cC := [_, _, _, _, _, _]) hb1
  replace q1 := q1.weaken (S' := fun b => w.heap.size + 2 < b) (fun b hb => by simp at hb; omega)
  clear hb1
  have c := bA.cell
  have f := bC.cell
  have fz := bC.frozen
  have zz := bC.lt
  have Q1 := Lib.hid q1
  clear q1
  have q_ := True.intro
  clear q_
  have q1 := Q1.out
  clear Q1
  go_wp2_with fail
  refine (toType_w x.res _ _ (H1.out.below (by repeat (first | exact B1 | refine Below.setCell ?_ (by simp <;> omega) _))) (by omega)).mono ?_
  rintro e w2 ⟨r2, rfl, q2, hb2⟩
  obtain ⟨R20, R21, R22A, R22m, R22c, R23A, R23m, R23c, rfl⟩ := Ty.form q2
  have hsz := hb2.size
  simp at hsz
  have B2 : Below w.heap.size w w2 := Below.trans (by repeat (first | exact B1 | refine Below.setCell ?_ (by simp <;> omega) _)) (hb2.mono (by have := B1.size; simp; omega))
  have lC := bC.lt
  replace bA := (Box.set_ne (bA) (by simp <;> omega) (.slice R1A x.params.length R1c)).call hb2
  replace bB := (Box.set_ne (bB) (by simp <;> omega) (.slice R1A x.params.length R1c)).call hb2
  replace bC := ((bC.set 0 (.slice R1A x.params.length R1c))).call hb2
  simp only [List.set] at bC
  replace q1 := (D.At.set (q1) (by simp <;> omega) (.slice R1A x.params.length R1c)).below hb2
  replace q2 := q2.weaken (S' := fun b => w.heap.size + 2 < b) (fun b hb => by simp at hb; omega)
  clear hsz lC
  clear hb2 c f fz zz
  clear B1
  have c := bA.cell
  have f := bC.cell
  have fz := bC.frozen
  have zz := bC.lt
  have Q1 := Lib.hid q1
  clear q1
  have Q2 := Lib.hid q2
  clear q2
  have b := bB.cell
  have bz := bB.frozen
  go_wp2
  refine bodyPost_ret (v := .agg #[.slice R1A x.params.length R1c, .int .i64 R20, .string R21, .slice R22A R22m R22c, .slice R23A R23m R23c, .bool x.async]) (by simp [results, Tryz.results128, go_sem, b]) rfl ⟨[.slice R1A x.params.length R1c, .int .i64 R20, .string R21, .slice R22A R22m R22c, .slice R23A R23m R23c, .bool x.async], rfl, ?_, ?_⟩
  · refine D.Ats.weaken (S := fun b => w.heap.size + 2 < b) ?_ (fun b hb => by omega)
    repeat (refine D.Ats.set ?_ (by simp <;> omega) _)
    have p1 := Q1.out
    have p2 := Q2.out
    exact Fn.mk_ p1 p2
  · repeat (refine Below.setCell ?_ (by simp <;> omega) _)
    exact B2

set_option maxHeartbeats 1000000 in
theorem eqFuncType_w (x : Fn) : IsQ 10 Fn.ds Fn.same x := by
  intro y cs cs' w hcs hcs'
  obtain ⟨AB, Ad, A0, A1, A2A, A2m, A2c, A3A, A3m, A3c, rfl, sA0, sA1⟩ := Fn.open_ hcs
  obtain ⟨BB, Bd, B0, B1, B2A, B2m, B2c, B3A, B3m, B3c, rfl, sB0, sB1⟩ := Fn.open_ hcs'
  have hE : Fn.same x y = (pairs Pa.same x.params y.params && (Ty.same x.res y.res && ((x.async == y.async)))) := Fn.same_eq _ _
  have HE := Lib.hid hE
  have H0 := Lib.hid (And.intro sA0 sB0)
  have H1 := Lib.hid (And.intro sA1 sB1)
  clear hE sA0 sB0 sA1 sB1
  show Calls Tryz.prog 10 _ _ (fun e w' => e = .returned (.bool (Fn.same x y)) ∧ Below w.heap.size w w')
  go_enter Tryz.func10, Tryz.ntmps10
  go_wp2_with fail
  refine (eqParamS_w x.params y.params (fun x _ => eqParam_w x) _ _ _ (H0.out.1.below (by repeat (first | exact Below.refl _ _ | refine Below.alloc ?_ (by first | omega | (simp <;> omega)) _))) (H0.out.2.below (by repeat (first | exact Below.refl _ _ | refine Below.alloc ?_ (by first | omega | (simp <;> omega)) _)))).mono ?_
  rintro e w1 ⟨rfl, hb1⟩
  obtain ⟨B1, bA, bB⟩ := box2 (cA := [_, _, _, _, _, _]) (cB := [_, _, _, _, _, _]) hb1
  clear hb1
  have c := bA.cell
  have d := bB.cell
  cases h0 : pairs Pa.same x.params y.params
  · have E0 := Lib.hid h0
    clear h0
    go_wp2
    go_ret
    exact ⟨ret_eq (by rw [HE.out, E0.out]; try rfl), B1⟩
  · have E0 := Lib.hid h0
    clear h0
    go_wp2_with fail
    refine (eqType_w x.res y.res _ _ _ (H1.out.1.below B1) (H1.out.2.below B1)).mono ?_
    rintro e w2 ⟨rfl, hb2⟩
    have B2 := B1.trans (hb2.mono B1.size)
    replace bA := bA.call hb2
    replace bB := bB.call hb2
    clear c d B1
    clear hb2
    have c := bA.cell
    have d := bB.cell
    cases h1 : Ty.same x.res y.res
    · have E1 := Lib.hid h1
      clear h1
      go_wp2
      go_ret
      exact ⟨ret_eq (by rw [HE.out, E0.out, E1.out]; try rfl), B2⟩
    · have E1 := Lib.hid h1
      clear h1
      cases h2 : (x.async == y.async)
      · have g2 : (x.async != y.async) = true := by simp [bne, h2]
        have E2 := Lib.hid h2
        go_wp2
        go_ret
        exact ⟨ret_eq (by rw [HE.out, E0.out, E1.out, E2.out]; try rfl), B2⟩
      · have g2 : (x.async != y.async) = false := by simp [bne, h2]
        have E2 := Lib.hid h2
        go_wp2
        go_ret
        exact ⟨ret_eq (by rw [HE.out, E0.out, E1.out, E2.out]; try rfl), B2⟩

end Go.Proofs.YtpfkhojhkjaafaaGreatDoor
namespace Go.Proofs.YtpfkhojhkjaafaaGreatDoor
open Go.RowKit

def SzFunc (x : Fu) : Prop := ∀ (cs : List Value) (a : Int) (w : World), D.Ats w anyB x.ds cs → 0 ≤ a → a ≤ 1048576 →
  Calls Tryz.prog 70 #[.agg cs.toArray, .int .i64 a] w fun e w' => e = .returned (.int .i64 (left a (D.totals x.ds))) ∧ Below w.heap.size w w'

set_option maxHeartbeats 1000000 in
theorem szFunc_w (x : Fu) : SzFunc x := by
  intro cs a w hcs h0 h1
  obtain ⟨A0A, A0m, A0c, A1, A2, A3A, A3m, A3c, A4A, A4m, A4c, A5, rfl, zA0, sA1⟩ := Fu.open_ hcs
  have hT : D.totals x.ds = x.name.size + D.totals x.ty.ds := by simp [Fu.ds, D.totals, D.total]
  have HT := Lib.hid hT
  have H1 := Lib.hid sA1
  unfold maxLen at zA0
  clear hT sA1
  by_cases g0 : (x.name.size : Int) ≤ a
  · skip
    go_enter Tryz.func70, Tryz.ntmps70
    go_wp2_with fail
    refine (szFuncType_w x.ty _ _ _ (H1.out.below (by repeat (first | exact Below.refl _ _ | refine Below.alloc ?_ (by first | omega | (simp <;> omega)) _))) (by omega) (by omega)).mono ?_
    rintro e w1 ⟨rfl, hb1⟩
    obtain ⟨B1, bA⟩ := box1 (cA := [_, _, _, _, _, _, _]) hb1
    clear hb1
    have c := bA.cell
    by_cases g1 : (D.totals x.ty.ds : Int) ≤ a - (x.name.size : Int)
    · rw [left_yes g1]
      have e1 : ¬ (a - (x.name.size : Int) - (D.totals x.ty.ds : Int) < 0) := by omega
      go_wp2
      go_ret
      have e9 : left a (D.totals x.ds) = a - (x.name.size : Int) - (D.totals x.ty.ds : Int) := by rw [left_yes (by rw [HT.out]; omega), HT.out]; first | done | omega
      exact ⟨ret_eq (by rw [e9]; try rfl), B1⟩
    · rw [left_no g1]
      go_wp2
      go_ret
      exact ⟨ret_eq (by rw [left_no (by rw [HT.out]; omega)]; try rfl), B1⟩
  · skip
    go_enter Tryz.func70, Tryz.ntmps70
    go_wp2
    go_ret
    exact ⟨ret_eq (by rw [left_no (by rw [HT.out]; omega)]; try rfl), (by repeat (first | exact Below.refl _ _ | refine Below.alloc ?_ (by first | omega | (simp <;> omega)) _))⟩

set_option maxHeartbeats 1000000 in
theorem szFuncS_w (l : List Fu) (hl : ∀ x ∈ l, SzFunc x) (v : Value) (a : Int) (w : World) (hv : D.At w anyB (rows Fu.ds 7 l) v) (h0 : 0 ≤ a) (h1 : a ≤ 1048576) :
    Calls Tryz.prog 32 #[v, .int .i64 a] w fun e w' => e = .returned (.int .i64 (left a (rows Fu.ds 7 l).total)) ∧ Below w.heap.size w w' := by
  obtain ⟨A, cap, rfl, hn, hc⟩ := rows_form Fu.len hv
  unfold maxLen at hc
  have HV := Lib.hid hv
  have HL := Lib.hid hl
  clear hv hl
  rw [rows_total]
  by_cases hlen : (l.length : Int) ≤ a
  · go_enter Tryz.func32, Tryz.ntmps32
    go_wp2
    go_loopw [1, 5] (fun a' i wr => ∃ (k : Nat) (q : Int), k ≤ l.length ∧ i = .int .i64 k ∧ a' = .int .i64 q ∧ q = a - l.length - (D.totals ((l.take k).flatMap Fu.ds) : Int) ∧ 0 ≤ q ∧ Below w.heap.size w wr) (fun _ i _ => l.length - (intOf i).toNat)
    case atStart => exact ⟨0, _, Nat.zero_le _, rfl, rfl, by simp [D.totals], by omega, Below.refl _ _⟩
    case round =>
      obtain ⟨k, q, hk, rfl, rfl, hq, hq0, hb⟩ := hrel
      have HQ := Lib.hid hq
      have hq1 : q ≤ 1048576 := by omega
      clear hq
      by_cases hlt : k < l.length
      · obtain ⟨x, hx⟩ : ∃ x, l[k]? = some x := ⟨l[k], List.getElem?_eq_getElem hlt⟩
        obtain ⟨b, off, u0, u1, u2, u3, u4, u5, u6, rfl, -, hbl, hat, c0, c1, c2, c3, c4, c5, c6⟩ := rows_at7 Fu.len HV.out hx
        replace c0 := (hb.cell (p := ⟨b, off + k * 7, none⟩) hbl).trans c0
        replace c1 := (hb.cell (p := ⟨b, off + k * 7 + 1, none⟩) hbl).trans c1
        replace c2 := (hb.cell (p := ⟨b, off + k * 7 + 2, none⟩) hbl).trans c2
        replace c3 := (hb.cell (p := ⟨b, off + k * 7 + 3, none⟩) hbl).trans c3
        replace c4 := (hb.cell (p := ⟨b, off + k * 7 + 4, none⟩) hbl).trans c4
        replace c5 := (hb.cell (p := ⟨b, off + k * 7 + 5, none⟩) hbl).trans c5
        replace c6 := (hb.cell (p := ⟨b, off + k * 7 + 6, none⟩) hbl).trans c6
        have hxm : x ∈ l := List.mem_of_getElem? hx
        have ht : D.totals ((l.take (k + 1)).flatMap Fu.ds) = D.totals ((l.take k).flatMap Fu.ds) + D.totals x.ds := by rw [take_next hx, D.totals_append]
        have htl := totals_take (f := Fu.ds) l (k + 1)
        have HT := Lib.hid (And.intro ht htl)
        clear ht htl hx
        go_wp2_with fail
        refine (HL.out x hxm _ q _ (hat.below hb) hq0 hq1).mono ?_
        rintro e w1 ⟨rfl, hb1⟩
        have hb2 := hb.trans (hb1.mono hb.size)
        clear hb hb1 c0 c1 c2 c3 c4 c5 c6
        by_cases hle : (D.totals x.ds : Int) ≤ q
        · have hg : 0 ≤ q - (D.totals x.ds : Int) := by omega
          rw [left_yes hle]
          go_wp2
          go_roundw
          case rel =>
            refine ⟨k + 1, q - D.totals x.ds, by omega, by go_num, rfl, ?_, hg, hb2⟩
            rw [HT.out.1, HQ.out]; omega
          case measure => simp [intOf]; omega
        · rw [left_no hle]
          go_wp2
          go_ret
          refine ⟨ret_eq ?_, hb2⟩
          rw [left_no (by have := HT.out; have := HQ.out; omega)]
          rfl
      · go_wp2
        go_ret
        refine ⟨ret_eq ?_, hb⟩
        have hk' : l.take k = l := List.take_of_length_le (by omega)
        have e := HQ.out
        rw [hk'] at e
        have e2 : left a (l.length + D.totals (l.flatMap Fu.ds)) = q := by rw [left_yes (by omega)]; omega
        rw [e2]
        rfl
  · rw [left_no (by omega)]
    go_enter Tryz.func32, Tryz.ntmps32
    go_wp2
    go_ret
    exact ⟨rfl, Below.refl _ _⟩

def ToFunc (x : Fu) : Prop := ∀ (cs : List Value) (w : World), D.Ats w anyB x.ds cs → D.totals x.ds ≤ 1048576 → Calls Tryz.prog 76 #[.agg cs.toArray] w (RetDs x.ds w)

set_option maxHeartbeats 1000000 in
theorem toFunc_w (x : Fu) : ToFunc x := by
  intro cs w hcs htot
  obtain ⟨A0A, A0m, A0c, A1, A2, A3A, A3m, A3c, A4A, A4m, A4c, A5, rfl, zA0, sA1⟩ := Fu.open_ hcs
  have hT : D.totals x.ds = x.name.size + D.totals x.ty.ds := by simp [Fu.ds, D.totals, D.total]
  rw [hT] at htot
  have H1 := Lib.hid sA1
  have KzA0 := Lib.hid zA0
  clear hT sA1 zA0
  go_enter Tryz.func76, Tryz.ntmps76
  go_wp2_with fail
  refine (toFuncType_w x.ty _ _ (H1.out.below (by repeat (first | exact Below.refl _ _ | refine Below.alloc ?_ (by first | omega | (simp <;> omega)) _))) (by omega)).mono ?_
  rintro e w1 ⟨r1, rfl, q1, hb1⟩
  obtain ⟨R10A, R10m, R10c, R11, R12, R13A, R13m, R13c, R14A, R14m, R14c, R15, rfl⟩ := Fn.form q1
  obtain ⟨B1, bA, bB, bC⟩ := box3 (cA := [_, _, _, _, _, _, _]) (cB := [_, _, _, _, _, _, _]) (cC := [_, _, _, _, _, _, _]) hb1
  replace q1 := q1.weaken (S' := fun b => w.heap.size + 2 < b) (fun b hb => by simp at hb; omega)
  clear hb1
  have c := bA.cell
  have f := bC.cell
  have fz := bC.frozen
  have zz := bC.lt
  have Q1 := Lib.hid q1
  clear q1
  have b := bB.cell
  have bz := bB.frozen
  go_wp2
  refine bodyPost_ret (v := .agg #[.string x.name, .slice R10A R10m R10c, .int .i64 R11, .string R12, .slice R13A R13m R13c, .slice R14A R14m R14c, .bool R15]) (by simp [results, Tryz.results76, go_sem, b]) rfl ⟨[.string x.name, .slice R10A R10m R10c, .int .i64 R11, .string R12, .slice R13A R13m R13c, .slice R14A R14m R14c, .bool R15], rfl, ?_, ?_⟩
  · refine D.Ats.weaken (S := fun b => w.heap.size + 2 < b) ?_ (fun b hb => by omega)
    repeat (refine D.Ats.set ?_ (by simp <;> omega) _)
    have p1 := Q1.out
    exact Fu.mk_ KzA0.out p1
  · repeat (refine Below.setCell ?_ (by simp <;> omega) _)
    exact B1

theorem info_iFunc : (Tryz.prog.info? 76).map (fun i => (i.zero, i.size, i.bytes)) = some (some (.agg #[.string ⟨#[]⟩, .slice none 0 0, .int .i64 0, .string ⟨#[]⟩, .slice none 0 0, .slice none 0 0, .bool false]), 7, 120) := by kernel_rfl

set_option maxHeartbeats 1000000 in
theorem toFuncS_w (l : List Fu) (hl : ∀ x ∈ l, ToFunc x) (v : Value) (w : World) (hv : D.At w anyB (rows Fu.ds 7 l) v) (ht : (rows Fu.ds 7 l).total ≤ 1048576) :
    Calls Tryz.prog 37 #[v] w (RetD (rows Fu.ds 7 l) w) := by
  obtain ⟨A, cap, rfl, hn, hc⟩ := rows_form Fu.len hv
  unfold maxLen at hc
  rw [rows_total] at ht
  have HV := Lib.hid hv
  have HL := Lib.hid hl
  obtain ⟨i0, hi, hz0, hz1, hz2⟩ := info_parts info_iFunc
  obtain ⟨cur, hcs, hmk⟩ := make_fact (P := Tryz.prog) Tryz.underlying35 hi hz0 hz1 hz2 l.length (by omega) (by omega) w
  have HC := Lib.hid (Filled.start w cur 76 7 l.length hcs)
  clear hv hl hi hz0 hz1 hz2 hcs
  go_enter Tryz.func37, Tryz.ntmps37
  go_wp2
  go_loopw [4] (fun i wr => ∃ k : Nat, k ≤ l.length ∧ i = .int .i64 k ∧ Filled w wr w.heap.size 76 7 l.length k ((l.take k).flatMap Fu.ds)) (fun i _ => l.length - (intOf i).toNat)
  case atStart => exact ⟨0, Nat.zero_le _, rfl, HC.out⟩
  case round =>
    obtain ⟨k, hk, rfl, hf⟩ := hrel
    have hb := hf.below
    by_cases hlt : k < l.length
    · obtain ⟨x, hx⟩ : ∃ x, l[k]? = some x := ⟨l[k], List.getElem?_eq_getElem hlt⟩
      obtain ⟨b, off, u0, u1, u2, u3, u4, u5, u6, rfl, -, hbl, hat, c0, c1, c2, c3, c4, c5, c6⟩ := rows_at7 Fu.len HV.out hx
      replace c0 := (hb.cell (p := ⟨b, off + k * 7, none⟩) hbl).trans c0
      replace c1 := (hb.cell (p := ⟨b, off + k * 7 + 1, none⟩) hbl).trans c1
      replace c2 := (hb.cell (p := ⟨b, off + k * 7 + 2, none⟩) hbl).trans c2
      replace c3 := (hb.cell (p := ⟨b, off + k * 7 + 3, none⟩) hbl).trans c3
      replace c4 := (hb.cell (p := ⟨b, off + k * 7 + 4, none⟩) hbl).trans c4
      replace c5 := (hb.cell (p := ⟨b, off + k * 7 + 5, none⟩) hbl).trans c5
      replace c6 := (hb.cell (p := ⟨b, off + k * 7 + 6, none⟩) hbl).trans c6
      have hxm : x ∈ l := List.mem_of_getElem? hx
      have hxt := totals_mem (f := Fu.ds) hxm
      have HD := Lib.hid (take_next (f := Fu.ds) hx)
      clear hx
      go_wp2_with fail
      refine (HL.out x hxm _ _ (hat.below hb) (by omega)).mono ?_
      rintro e w1 ⟨cs, rfl, hcs, hb1⟩
      have hf1 := hf.call hb1
      have hcs' : D.Ats w1 (fun b => w.heap.size < b) x.ds cs := hcs.weaken (fun b hb' => Nat.lt_of_lt_of_le hf.lt hb')
      clear hcs hb1 c0 c1 c2 c3 c4 c5 c6 hf hb
      obtain ⟨F0, F1A, F1m, F1c, F2, F3, F4A, F4m, F4c, F5A, F5m, F5c, F6, rfl⟩ := Fu.form hcs'
      obtain ⟨o0, p0, q0⟩ := hf1.cells (k * 7) (by omega)
      obtain ⟨o1, p1, q1⟩ := hf1.cells (k * 7 + 1) (by omega)
      obtain ⟨o2, p2, q2⟩ := hf1.cells (k * 7 + 2) (by omega)
      obtain ⟨o3, p3, q3⟩ := hf1.cells (k * 7 + 3) (by omega)
      obtain ⟨o4, p4, q4⟩ := hf1.cells (k * 7 + 4) (by omega)
      obtain ⟨o5, p5, q5⟩ := hf1.cells (k * 7 + 5) (by omega)
      obtain ⟨o6, p6, q6⟩ := hf1.cells (k * 7 + 6) (by omega)
      have HF := Lib.hid (hf1.store hlt rfl hcs')
      clear hf1 hcs'
      go_wp2
      go_roundw
      case rel => exact ⟨k + 1, by omega, by go_num, by rw [HD.out]; exact HF.out⟩
      case measure => simp [intOf]; omega
    · obtain rfl : k = l.length := by omega
      have hd := hf.done (by unfold maxLen; omega)
      have HF := Lib.hid (And.intro hd hb)
      clear hd hb hf
      go_wp2
      go_ret
      refine ⟨_, rfl, ?_, HF.out.2⟩
      have := HF.out.1
      rw [List.take_length] at this
      exact this

set_option maxHeartbeats 1000000 in
theorem eqFunc_w (x : Fu) : IsQ 90 Fu.ds Fu.same x := by
  intro y cs cs' w hcs hcs'
  obtain ⟨A0A, A0m, A0c, A1, A2, A3A, A3m, A3c, A4A, A4m, A4c, A5, rfl, zA0, sA1⟩ := Fu.open_ hcs
  obtain ⟨B0A, B0m, B0c, B1, B2, B3A, B3m, B3c, B4A, B4m, B4c, B5, rfl, zB0, sB1⟩ := Fu.open_ hcs'
  have hE : Fu.same x y = ((x.name.toList == y.name.toList) && (Fn.same x.ty y.ty)) := Fu.same_eq _ _
  have HE := Lib.hid hE
  have H1 := Lib.hid (And.intro sA1 sB1)
  clear hE zA0 zB0 sA1 sB1
  show Calls Tryz.prog 90 _ _ (fun e w' => e = .returned (.bool (Fu.same x y)) ∧ Below w.heap.size w w')
  cases h0 : (x.name.toList == y.name.toList)
  · have g0 : (x.name.toList != y.name.toList) = true := by simp [bne, h0]
    have E0 := Lib.hid h0
    go_enter Tryz.func90, Tryz.ntmps90
    go_wp2
    go_ret
    exact ⟨ret_eq (by rw [HE.out, E0.out]; try rfl), (by repeat (first | exact Below.refl _ _ | refine Below.alloc ?_ (by first | omega | (simp <;> omega)) _))⟩
  · have g0 : (x.name.toList != y.name.toList) = false := by simp [bne, h0]
    have E0 := Lib.hid h0
    go_enter Tryz.func90, Tryz.ntmps90
    go_wp2_with fail
    refine (eqFuncType_w x.ty y.ty _ _ _ (H1.out.1.below (by repeat (first | exact Below.refl _ _ | refine Below.alloc ?_ (by first | omega | (simp <;> omega)) _))) (H1.out.2.below (by repeat (first | exact Below.refl _ _ | refine Below.alloc ?_ (by first | omega | (simp <;> omega)) _)))).mono ?_
    rintro e w1 ⟨rfl, hb1⟩
    obtain ⟨B1, bA, bB⟩ := box2 (cA := [_, _, _, _, _, _, _]) (cB := [_, _, _, _, _, _, _]) hb1
    clear hb1
    have c := bA.cell
    have d := bB.cell
    cases h1 : Fn.same x.ty y.ty
    · have E1 := Lib.hid h1
      clear h1
      go_wp2
      go_ret
      exact ⟨ret_eq (by rw [HE.out, E0.out, E1.out]; try rfl), B1⟩
    · have E1 := Lib.hid h1
      clear h1
      go_wp2
      go_ret
      exact ⟨ret_eq (by rw [HE.out, E0.out, E1.out]; try rfl), B1⟩

set_option maxHeartbeats 1000000 in
theorem eqFuncS_w (l m : List Fu) (hl : ∀ x ∈ l, IsQ 90 Fu.ds Fu.same x) (v v' : Value) (w : World) (hv : D.At w anyB (rows Fu.ds 7 l) v) (hv' : D.At w anyB (rows Fu.ds 7 m) v') :
    Calls Tryz.prog 43 #[v, v'] w fun e w' => e = .returned (.bool (pairs Fu.same l m)) ∧ Below w.heap.size w w' := by
  obtain ⟨A, cap, rfl, hn, hc⟩ := rows_form Fu.len hv
  obtain ⟨A', cap', rfl, hn', hc'⟩ := rows_form Fu.len hv'
  unfold maxLen at hc hc'
  have HV := Lib.hid hv
  have HV' := Lib.hid hv'
  have HL := Lib.hid hl
  clear hv hv' hl
  by_cases hlm : l.length = m.length
  · have g1 : ((l.length : Int) != (m.length : Int)) = false := by simp [hlm]
    have HLM := Lib.hid hlm
    have hle : m.length ≤ l.length := by omega
    clear hlm
    go_enter Tryz.func43, Tryz.ntmps43
    go_wp2
    go_loopw [5] (fun i wr => ∃ k : Nat, k ≤ l.length ∧ i = .int .i64 k ∧ PairsTo Fu.same l m k ∧ Below w.heap.size w wr) (fun i _ => l.length - (intOf i).toNat)
    case atStart => exact ⟨0, Nat.zero_le _, rfl, PairsTo.zero _ _ _, Below.refl _ _⟩
    case round =>
      obtain ⟨k, hk, rfl, hst, hb⟩ := hrel
      by_cases hlt : k < l.length
      · obtain ⟨x, hx⟩ : ∃ x, l[k]? = some x := ⟨l[k], List.getElem?_eq_getElem hlt⟩
        obtain ⟨y, hy⟩ : ∃ y, m[k]? = some y := ⟨m[k]'(by have := HLM.out; omega), List.getElem?_eq_getElem (by have := HLM.out; omega)⟩
        have hltm : (k : Int) < (m.length : Int) := by have := HLM.out; omega
        have hk0 : (0 : Int) ≤ (k : Int) := by omega
        have hk1 : (k : Int) < (l.length : Int) := by omega
        obtain ⟨b, off, u0, u1, u2, u3, u4, u5, u6, rfl, -, hbl, hat, c0, c1, c2, c3, c4, c5, c6⟩ := rows_at7 Fu.len HV.out hx
        obtain ⟨b', off', v0, v1, v2, v3, v4, v5, v6, rfl, -, hbl', hat', d0, d1, d2, d3, d4, d5, d6⟩ := rows_at7 Fu.len HV'.out hy
        replace c0 := cell_regrown ((hb.cell (p := ⟨b, off + k * 7, none⟩) hbl).trans c0)
        replace c1 := cell_regrown ((hb.cell (p := ⟨b, off + k * 7 + 1, none⟩) hbl).trans c1)
        replace c2 := cell_regrown ((hb.cell (p := ⟨b, off + k * 7 + 2, none⟩) hbl).trans c2)
        replace c3 := cell_regrown ((hb.cell (p := ⟨b, off + k * 7 + 3, none⟩) hbl).trans c3)
        replace c4 := cell_regrown ((hb.cell (p := ⟨b, off + k * 7 + 4, none⟩) hbl).trans c4)
        replace c5 := cell_regrown ((hb.cell (p := ⟨b, off + k * 7 + 5, none⟩) hbl).trans c5)
        replace c6 := cell_regrown ((hb.cell (p := ⟨b, off + k * 7 + 6, none⟩) hbl).trans c6)
        replace d0 := cell_regrown ((hb.cell (p := ⟨b', off' + k * 7, none⟩) hbl').trans d0)
        replace d1 := cell_regrown ((hb.cell (p := ⟨b', off' + k * 7 + 1, none⟩) hbl').trans d1)
        replace d2 := cell_regrown ((hb.cell (p := ⟨b', off' + k * 7 + 2, none⟩) hbl').trans d2)
        replace d3 := cell_regrown ((hb.cell (p := ⟨b', off' + k * 7 + 3, none⟩) hbl').trans d3)
        replace d4 := cell_regrown ((hb.cell (p := ⟨b', off' + k * 7 + 4, none⟩) hbl').trans d4)
        replace d5 := cell_regrown ((hb.cell (p := ⟨b', off' + k * 7 + 5, none⟩) hbl').trans d5)
        replace d6 := cell_regrown ((hb.cell (p := ⟨b', off' + k * 7 + 6, none⟩) hbl').trans d6)
        have hxm : x ∈ l := List.mem_of_getElem? hx
        have HN := Lib.hid (And.intro hx (And.intro hy hst))
        clear hx hy hst
        go_wp2_with fail
        refine wp_region_quiet_below (by kernel_rfl) (by kernel_rfl) ?_
        repeat (quiet_step (exact Calls.regrown_of (HL.out x hxm y _ _ _ ((hat.below hb).below (below_regrown _ _ _)) ((hat'.below hb).below (below_regrown _ _ _)))))
        refine wpQuiet_nil ?_
        intro w2 hw2
        have hb2 := hb.trans ((below_of_regrown hw2).mono hb.size)
        clear hw2 c0 c1 c2 c3 c4 c5 c6 d0 d1 d2 d3 d4 d5 d6
        cases hs : Fu.same x y
        · have HB := Lib.hid (pairs_bad HN.out.1 HN.out.2.1 hs)
          go_wp2
          go_ret
          exact ⟨ret_eq (by rw [HB.out]; rfl), hb2⟩
        · have HB := Lib.hid (HN.out.2.2.next HN.out.1 HN.out.2.1 hs)
          go_wp2
          go_roundw
          case rel => exact ⟨k + 1, by omega, by go_num, HB.out, hb2⟩
          case measure => simp [intOf]; omega
      · obtain rfl : k = l.length := by omega
        have HB := Lib.hid (PairsTo.end_ HLM.out hst)
        go_wp2
        go_ret
        exact ⟨ret_eq (by rw [HB.out]; rfl), hb⟩
  · have g1 : ((l.length : Int) != (m.length : Int)) = true := by rw [bne_iff_ne]; omega
    rw [pairs_len hlm]
    go_enter Tryz.func43, Tryz.ntmps43
    go_wp2
    go_ret
    exact ⟨rfl, Below.refl _ _⟩

end Go.Proofs.YtpfkhojhkjaafaaGreatDoor
namespace Go.Proofs.YtpfkhojhkjaafaaGreatDoor
open Go.RowKit

def SzFace (x : Fa) : Prop := ∀ (cs : List Value) (a : Int) (w : World), D.Ats w anyB x.ds cs → 0 ≤ a → a ≤ 1048576 →
  Calls Tryz.prog 6 #[.agg cs.toArray, .int .i64 a] w fun e w' => e = .returned (.int .i64 (left a (D.totals x.ds))) ∧ Below w.heap.size w w'

set_option maxHeartbeats 1000000 in
theorem szFace_w (x : Fa) : SzFace x := by
  intro cs a w hcs h0 h1
  obtain ⟨AA, Ac, AA', Ac', rfl, zA0, zA1, zA2, sA3, sA4⟩ := Fa.open_ hcs
  have hT : D.totals x.ds = x.pkg.size + x.name.size + x.ver.size + (strs x.owns).total + (rows Fu.ds 7 x.funcs).total := by simp [Fa.ds, D.totals, D.total] <;> omega
  have HT := Lib.hid hT
  have H3 := Lib.hid sA3
  have H4 := Lib.hid sA4
  unfold maxLen at zA0 zA1 zA2
  clear hT sA3 sA4
  by_cases g0 : (x.pkg.size : Int) ≤ a
  · skip
    by_cases g1 : (x.name.size : Int) ≤ a - (x.pkg.size : Int)
    · skip
      by_cases g2 : (x.ver.size : Int) ≤ a - (x.pkg.size : Int) - (x.name.size : Int)
      · skip
        go_enter Tryz.func6, Tryz.ntmps6
        go_wp2_with fail
        refine (szStringS_w x.owns _ _ _ (H3.out.below (by repeat (first | exact Below.refl _ _ | refine Below.alloc ?_ (by first | omega | (simp <;> omega)) _))) (by omega) (by omega)).mono ?_
        rintro e w1 ⟨rfl, hb1⟩
        obtain ⟨B1, bA⟩ := box1 (cA := [_, _, _, _, _]) hb1
        clear hb1
        have c := bA.cell
        by_cases g3 : ((strs x.owns).total : Int) ≤ a - (x.pkg.size : Int) - (x.name.size : Int) - (x.ver.size : Int)
        · rw [left_yes g3]
          have e3 : ¬ (a - (x.pkg.size : Int) - (x.name.size : Int) - (x.ver.size : Int) - ((strs x.owns).total : Int) < 0) := by omega
          go_wp2_with fail
          refine (szFuncS_w x.funcs (fun x _ => szFunc_w x) _ _ _ (H4.out.below B1) (by omega) (by omega)).mono ?_
          rintro e w2 ⟨rfl, hb2⟩
          have B2 := B1.trans (hb2.mono B1.size)
          replace bA := bA.call hb2
          clear c
          clear hb2 B1
          have c := bA.cell
          by_cases g4 : ((rows Fu.ds 7 x.funcs).total : Int) ≤ a - (x.pkg.size : Int) - (x.name.size : Int) - (x.ver.size : Int) - ((strs x.owns).total : Int)
          · rw [left_yes g4]
            have e4 : ¬ (a - (x.pkg.size : Int) - (x.name.size : Int) - (x.ver.size : Int) - ((strs x.owns).total : Int) - ((rows Fu.ds 7 x.funcs).total : Int) < 0) := by omega
            go_wp2
            go_ret
            have e9 : left a (D.totals x.ds) = a - (x.pkg.size : Int) - (x.name.size : Int) - (x.ver.size : Int) - ((strs x.owns).total : Int) - ((rows Fu.ds 7 x.funcs).total : Int) := by rw [left_yes (by rw [HT.out]; omega), HT.out]; first | done | omega
            exact ⟨ret_eq (by rw [e9]; try rfl), B2⟩
          · rw [left_no g4]
            go_wp2
            go_ret
            exact ⟨ret_eq (by rw [left_no (by rw [HT.out]; omega)]; try rfl), B2⟩
        · rw [left_no g3]
          go_wp2
          go_ret
          exact ⟨ret_eq (by rw [left_no (by rw [HT.out]; omega)]; try rfl), B1⟩
      · skip
        go_enter Tryz.func6, Tryz.ntmps6
        go_wp2
        go_ret
        exact ⟨ret_eq (by rw [left_no (by rw [HT.out]; omega)]; try rfl), (by repeat (first | exact Below.refl _ _ | refine Below.alloc ?_ (by first | omega | (simp <;> omega)) _))⟩
    · skip
      go_enter Tryz.func6, Tryz.ntmps6
      go_wp2
      go_ret
      exact ⟨ret_eq (by rw [left_no (by rw [HT.out]; omega)]; try rfl), (by repeat (first | exact Below.refl _ _ | refine Below.alloc ?_ (by first | omega | (simp <;> omega)) _))⟩
  · skip
    go_enter Tryz.func6, Tryz.ntmps6
    go_wp2
    go_ret
    exact ⟨ret_eq (by rw [left_no (by rw [HT.out]; omega)]; try rfl), (by repeat (first | exact Below.refl _ _ | refine Below.alloc ?_ (by first | omega | (simp <;> omega)) _))⟩

def ToFace (x : Fa) : Prop := ∀ (cs : List Value) (w : World), D.Ats w anyB x.ds cs → D.totals x.ds ≤ 1048576 → Calls Tryz.prog 8 #[.agg cs.toArray] w (RetDs x.ds w)

set_option maxHeartbeats 1000000 in
theorem toFace_w (x : Fa) : ToFace x := by
  intro cs w hcs htot
  obtain ⟨AA, Ac, AA', Ac', rfl, zA0, zA1, zA2, sA3, sA4⟩ := Fa.open_ hcs
  have hT : D.totals x.ds = x.pkg.size + x.name.size + x.ver.size + (strs x.owns).total + (rows Fu.ds 7 x.funcs).total := by simp [Fa.ds, D.totals, D.total] <;> omega
  rw [hT] at htot
  have H3 := Lib.hid sA3
  have H4 := Lib.hid sA4
  have KzA0 := Lib.hid zA0
  have KzA1 := Lib.hid zA1
  have KzA2 := Lib.hid zA2
  clear hT sA3 sA4 zA0 zA1 zA2
  go_enter Tryz.func8, Tryz.ntmps8
  go_wp2_with fail
  refine (toStringS_w x.owns _ _ (H3.out.below (by repeat (first | exact Below.refl _ _ | refine Below.alloc ?_ (by first | omega | (simp <;> omega)) _))) (by omega)).mono ?_
  rintro e w1 ⟨r1, rfl, q1, hb1⟩
  obtain ⟨R1A, R1c, rfl, -, -⟩ := rows_form strD_length q1
  obtain ⟨B1, bA, bB, bC⟩ := box3 (cA := [_, _, _, _, _]) (cB := [_, _, _, _, _]) (cC := [_, _, _, _, _]) hb1
  replace q1 := q1.weaken (S' := fun b => w.heap.size + 2 < b) (fun b hb => by simp at hb; omega)
  clear hb1
  have c := bA.cell
  have f := bC.cell
  have fz := bC.frozen
  have zz := bC.lt
  have Q1 := Lib.hid q1
  clear q1
  have q_ := True.intro
  clear q_
  have q1 := Q1.out
  clear Q1
  go_wp2_with fail
  refine (toFuncS_w x.funcs (fun x _ => toFunc_w x) _ _ (H4.out.below (by repeat (first | exact B1 | refine Below.setCell ?_ (by simp <;> omega) _))) (by omega)).mono ?_
  rintro e w2 ⟨r2, rfl, q2, hb2⟩
  obtain ⟨R2A, R2c, rfl, -, -⟩ := rows_form Fu.len q2
  have hsz := hb2.size
  simp at hsz
  have B2 : Below w.heap.size w w2 := Below.trans (by repeat (first | exact B1 | refine Below.setCell ?_ (by simp <;> omega) _)) (hb2.mono (by have := B1.size; simp; omega))
  have lC := bC.lt
  replace bA := (Box.set_ne (bA) (by simp <;> omega) (.slice R1A x.owns.length R1c)).call hb2
  replace bB := (Box.set_ne (bB) (by simp <;> omega) (.slice R1A x.owns.length R1c)).call hb2
  replace bC := ((bC.set 3 (.slice R1A x.owns.length R1c))).call hb2
  simp only [List.set] at bC
  replace q1 := (D.At.set (q1) (by simp <;> omega) (.slice R1A x.owns.length R1c)).below hb2
  replace q2 := q2.weaken (S' := fun b => w.heap.size + 2 < b) (fun b hb => by simp at hb; omega)
  clear hsz lC
  clear hb2 c f fz zz
  clear B1
  have c := bA.cell
  have f := bC.cell
  have fz := bC.frozen
  have zz := bC.lt
  have Q1 := Lib.hid q1
  clear q1
  have Q2 := Lib.hid q2
  clear q2
  have b := bB.cell
  have bz := bB.frozen
  go_wp2
  refine bodyPost_ret (v := .agg #[.string x.pkg, .string x.name, .string x.ver, .slice R1A x.owns.length R1c, .slice R2A x.funcs.length R2c]) (by simp [results, Tryz.results8, go_sem, b]) rfl ⟨[.string x.pkg, .string x.name, .string x.ver, .slice R1A x.owns.length R1c, .slice R2A x.funcs.length R2c], rfl, ?_, ?_⟩
  · refine D.Ats.weaken (S := fun b => w.heap.size + 2 < b) ?_ (fun b hb => by omega)
    repeat (refine D.Ats.set ?_ (by simp <;> omega) _)
    have p1 := Q1.out
    have p2 := Q2.out
    exact Fa.mk_ KzA0.out KzA1.out KzA2.out p1 p2
  · repeat (refine Below.setCell ?_ (by simp <;> omega) _)
    exact B2

set_option maxHeartbeats 1000000 in
theorem eqFace_w (x : Fa) : IsQ 11 Fa.ds Fa.same x := by
  intro y cs cs' w hcs hcs'
  obtain ⟨AA, Ac, AA', Ac', rfl, zA0, zA1, zA2, sA3, sA4⟩ := Fa.open_ hcs
  obtain ⟨BA, Bc, BA', Bc', rfl, zB0, zB1, zB2, sB3, sB4⟩ := Fa.open_ hcs'
  have hE : Fa.same x y = ((x.pkg.toList == y.pkg.toList) && ((x.name.toList == y.name.toList) && ((x.ver.toList == y.ver.toList) && (pairs sameS x.owns y.owns && (pairs Fu.same x.funcs y.funcs))))) := Fa.same_eq _ _
  have HE := Lib.hid hE
  have H3 := Lib.hid (And.intro sA3 sB3)
  have H4 := Lib.hid (And.intro sA4 sB4)
  clear hE zA0 zB0 zA1 zB1 zA2 zB2 sA3 sB3 sA4 sB4
  show Calls Tryz.prog 11 _ _ (fun e w' => e = .returned (.bool (Fa.same x y)) ∧ Below w.heap.size w w')
  cases h0 : (x.pkg.toList == y.pkg.toList)
  · have g0 : (x.pkg.toList != y.pkg.toList) = true := by simp [bne, h0]
    have E0 := Lib.hid h0
    go_enter Tryz.func11, Tryz.ntmps11
    go_wp2
    go_ret
    exact ⟨ret_eq (by rw [HE.out, E0.out]; try rfl), (by repeat (first | exact Below.refl _ _ | refine Below.alloc ?_ (by first | omega | (simp <;> omega)) _))⟩
  · have g0 : (x.pkg.toList != y.pkg.toList) = false := by simp [bne, h0]
    have E0 := Lib.hid h0
    cases h1 : (x.name.toList == y.name.toList)
    · have g1 : (x.name.toList != y.name.toList) = true := by simp [bne, h1]
      have E1 := Lib.hid h1
      go_enter Tryz.func11, Tryz.ntmps11
      go_wp2
      go_ret
      exact ⟨ret_eq (by rw [HE.out, E0.out, E1.out]; try rfl), (by repeat (first | exact Below.refl _ _ | refine Below.alloc ?_ (by first | omega | (simp <;> omega)) _))⟩
    · have g1 : (x.name.toList != y.name.toList) = false := by simp [bne, h1]
      have E1 := Lib.hid h1
      cases h2 : (x.ver.toList == y.ver.toList)
      · have g2 : (x.ver.toList != y.ver.toList) = true := by simp [bne, h2]
        have E2 := Lib.hid h2
        go_enter Tryz.func11, Tryz.ntmps11
        go_wp2
        go_ret
        exact ⟨ret_eq (by rw [HE.out, E0.out, E1.out, E2.out]; try rfl), (by repeat (first | exact Below.refl _ _ | refine Below.alloc ?_ (by first | omega | (simp <;> omega)) _))⟩
      · have g2 : (x.ver.toList != y.ver.toList) = false := by simp [bne, h2]
        have E2 := Lib.hid h2
        go_enter Tryz.func11, Tryz.ntmps11
        go_wp2_with fail
        refine (eqStringS_w x.owns y.owns _ _ _ (H3.out.1.below (by repeat (first | exact Below.refl _ _ | refine Below.alloc ?_ (by first | omega | (simp <;> omega)) _))) (H3.out.2.below (by repeat (first | exact Below.refl _ _ | refine Below.alloc ?_ (by first | omega | (simp <;> omega)) _)))).mono ?_
        rintro e w1 ⟨rfl, hb1⟩
        obtain ⟨B1, bA, bB⟩ := box2 (cA := [_, _, _, _, _]) (cB := [_, _, _, _, _]) hb1
        clear hb1
        have c := bA.cell
        have d := bB.cell
        cases h3 : pairs sameS x.owns y.owns
        · have E3 := Lib.hid h3
          clear h3
          go_wp2
          go_ret
          exact ⟨ret_eq (by rw [HE.out, E0.out, E1.out, E2.out, E3.out]; try rfl), B1⟩
        · have E3 := Lib.hid h3
          clear h3
          go_wp2_with fail
          refine (eqFuncS_w x.funcs y.funcs (fun x _ => eqFunc_w x) _ _ _ (H4.out.1.below B1) (H4.out.2.below B1)).mono ?_
          rintro e w2 ⟨rfl, hb2⟩
          have B2 := B1.trans (hb2.mono B1.size)
          replace bA := bA.call hb2
          replace bB := bB.call hb2
          clear c d B1
          clear hb2
          have c := bA.cell
          have d := bB.cell
          cases h4 : pairs Fu.same x.funcs y.funcs
          · have E4 := Lib.hid h4
            clear h4
            go_wp2
            go_ret
            exact ⟨ret_eq (by rw [HE.out, E0.out, E1.out, E2.out, E3.out, E4.out]; try rfl), B2⟩
          · have E4 := Lib.hid h4
            clear h4
            go_wp2
            go_ret
            exact ⟨ret_eq (by rw [HE.out, E0.out, E1.out, E2.out, E3.out, E4.out]; try rfl), B2⟩

end Go.Proofs.YtpfkhojhkjaafaaGreatDoor
