/- Param: how much the law counts, its deep copy, its comparison. -/
import Derived.Test.YtoioljkhinodaaaGreatDoorGStrs
import Derived.Test.YtoioljkhinodaaaGreatDoorTyM
import Derived.Test.YtoioljkhinodaaaGreatDoorGType
namespace Go.Proofs.YtoioljkhinodaaaGreatDoor
open Go.RowKit

def SzParam (x : Pa) : Prop := ∀ (cs : List Value) (a : Int) (w : World), D.Ats w anyB x.ds cs → 0 ≤ a → a ≤ 1048576 →
  Calls Tryz.prog 74 #[.agg cs.toArray, .int .i64 a] w fun e w' => e = .returned (.int .i64 (left a (D.totals x.ds))) ∧ Below w.heap.size w w'

set_option maxHeartbeats 1000000 in
theorem szParam_w (x : Pa) : SzParam x := by
  intro cs a w hcs h0 h1
  obtain ⟨A0, A1, A2A, A2m, A2c, A3A, A3m, A3c, rfl, zA0, sA1⟩ := Pa.open_ hcs
  have hT : D.totals x.ds = x.name.size + D.totals x.ty.ds := by simp [Pa.ds, D.totals, D.total]
  have HT := Lib.hid hT
  have H1 := Lib.hid sA1
  unfold maxLen at zA0
  clear hT sA1
  by_cases g0 : (x.name.size : Int) ≤ a
  · skip
    go_enter Tryz.func74, Tryz.ntmps74
    go_wp2_with fail
    refine (szType_w x.ty _ _ _ (H1.out.below (by repeat (first | exact Below.refl _ _ | refine Below.alloc ?_ (by first | omega | (simp <;> omega)) _))) (by omega) (by omega)).mono ?_
    rintro e w1 ⟨rfl, hb1⟩
    obtain ⟨B1, bA⟩ := box1 (cA := [_, _, _, _, _]) hb1
    clear hb1
    have c := bA.cell
    by_cases g1 : (D.totals x.ty.ds : Int) ≤ a - (x.name.size : Int)
    · rw [left_yes g1]
      have e1 : ¬ (a - (x.name.size : Int) - (D.totals x.ty.ds : Int) < 0) := by omega
      go_wp2
      go_ret
      have e9 : left a (D.totals x.ds) = a - (x.name.size : Int) - (D.totals x.ty.ds : Int) := by rw [left_yes (by rw [HT.out]; omega), HT.out]; first | done | omega
      exact ⟨ret_eq (by rw [e9]; try rfl), B1⟩
    · rw [left_no g1]
      go_wp2
      go_ret
      exact ⟨ret_eq (by rw [left_no (by rw [HT.out]; omega)]; try rfl), B1⟩
  · skip
    go_enter Tryz.func74, Tryz.ntmps74
    go_wp2
    go_ret
    exact ⟨ret_eq (by rw [left_no (by rw [HT.out]; omega)]; try rfl), (by repeat (first | exact Below.refl _ _ | refine Below.alloc ?_ (by first | omega | (simp <;> omega)) _))⟩

set_option maxHeartbeats 1000000 in
theorem szParamS_w (l : List Pa) (hl : ∀ x ∈ l, SzParam x) (v : Value) (a : Int) (w : World) (hv : D.At w anyB (rows Pa.ds 5 l) v) (h0 : 0 ≤ a) (h1 : a ≤ 1048576) :
    Calls Tryz.prog 37 #[v, .int .i64 a] w fun e w' => e = .returned (.int .i64 (left a (rows Pa.ds 5 l).total)) ∧ Below w.heap.size w w' := by
  obtain ⟨A, cap, rfl, hn, hc⟩ := rows_form Pa.len hv
  unfold maxLen at hc
  have HV := Lib.hid hv
  have HL := Lib.hid hl
  clear hv hl
  rw [rows_total]
  by_cases hlen : (l.length : Int) ≤ a
  · go_enter Tryz.func37, Tryz.ntmps37
    go_wp2
    go_loopw [1, 5] (fun a' i wr => ∃ (k : Nat) (q : Int), k ≤ l.length ∧ i = .int .i64 k ∧ a' = .int .i64 q ∧ q = a - l.length - (D.totals ((l.take k).flatMap Pa.ds) : Int) ∧ 0 ≤ q ∧ Below w.heap.size w wr) (fun _ i _ => l.length - (intOf i).toNat)
    case atStart => exact ⟨0, _, Nat.zero_le _, rfl, rfl, by simp [D.totals], by omega, Below.refl _ _⟩
    case round =>
      obtain ⟨k, q, hk, rfl, rfl, hq, hq0, hb⟩ := hrel
      have HQ := Lib.hid hq
      have hq1 : q ≤ 1048576 := by omega
      clear hq
      by_cases hlt : k < l.length
      · obtain ⟨x, hx⟩ : ∃ x, l[k]? = some x := ⟨l[k], List.getElem?_eq_getElem hlt⟩
        obtain ⟨b, off, u0, u1, u2, u3, u4, rfl, -, hbl, hat, c0, c1, c2, c3, c4⟩ := rows_at5 Pa.len HV.out hx
        replace c0 := (hb.cell (p := ⟨b, off + k * 5, none⟩) hbl).trans c0
        replace c1 := (hb.cell (p := ⟨b, off + k * 5 + 1, none⟩) hbl).trans c1
        replace c2 := (hb.cell (p := ⟨b, off + k * 5 + 2, none⟩) hbl).trans c2
        replace c3 := (hb.cell (p := ⟨b, off + k * 5 + 3, none⟩) hbl).trans c3
        replace c4 := (hb.cell (p := ⟨b, off + k * 5 + 4, none⟩) hbl).trans c4
        have hxm : x ∈ l := List.mem_of_getElem? hx
        have ht : D.totals ((l.take (k + 1)).flatMap Pa.ds) = D.totals ((l.take k).flatMap Pa.ds) + D.totals x.ds := by rw [take_next hx, D.totals_append]
        have htl := totals_take (f := Pa.ds) l (k + 1)
        have HT := Lib.hid (And.intro ht htl)
        clear ht htl hx
        go_wp2_with fail
        refine (HL.out x hxm _ q _ (hat.below hb) hq0 hq1).mono ?_
        rintro e w1 ⟨rfl, hb1⟩
        have hb2 := hb.trans (hb1.mono hb.size)
        clear hb hb1 c0 c1 c2 c3 c4
        by_cases hle : (D.totals x.ds : Int) ≤ q
        · have hg : 0 ≤ q - (D.totals x.ds : Int) := by omega
          rw [left_yes hle]
          go_wp2
          go_roundw
          case rel =>
            refine ⟨k + 1, q - D.totals x.ds, by omega, by go_num, rfl, ?_, hg, hb2⟩
            rw [HT.out.1, HQ.out]; omega
          case measure => simp [intOf]; omega
        · rw [left_no hle]
          go_wp2
          go_ret
          refine ⟨ret_eq ?_, hb2⟩
          rw [left_no (by have := HT.out; have := HQ.out; omega)]
          rfl
      · go_wp2
        go_ret
        refine ⟨ret_eq ?_, hb⟩
        have hk' : l.take k = l := List.take_of_length_le (by omega)
        have e := HQ.out
        rw [hk'] at e
        have e2 : left a (l.length + D.totals (l.flatMap Pa.ds)) = q := by rw [left_yes (by omega)]; omega
        rw [e2]
        rfl
  · rw [left_no (by omega)]
    go_enter Tryz.func37, Tryz.ntmps37
    go_wp2
    go_ret
    exact ⟨rfl, Below.refl _ _⟩

def ToParam (x : Pa) : Prop := ∀ (cs : List Value) (w : World), D.Ats w anyB x.ds cs → D.totals x.ds ≤ 1048576 → Calls Tryz.prog 76 #[.agg cs.toArray] w (RetDs x.ds w)

set_option maxHeartbeats 1000000 in
theorem toParam_w (x : Pa) : ToParam x := by
  intro cs w hcs htot
  obtain ⟨A0, A1, A2A, A2m, A2c, A3A, A3m, A3c, rfl, zA0, sA1⟩ := Pa.open_ hcs
  have hT : D.totals x.ds = x.name.size + D.totals x.ty.ds := by simp [Pa.ds, D.totals, D.total]
  rw [hT] at htot
  have H1 := Lib.hid sA1
  have KzA0 := Lib.hid zA0
  clear hT sA1 zA0
  go_enter Tryz.func76, Tryz.ntmps76
  go_wp2_with fail
  refine (toType_w x.ty _ _ (H1.out.below (by repeat (first | exact Below.refl _ _ | refine Below.alloc ?_ (by first | omega | (simp <;> omega)) _))) (by omega)).mono ?_
  rintro e w1 ⟨r1, rfl, q1, hb1⟩
  obtain ⟨R10, R11, R12A, R12m, R12c, R13A, R13m, R13c, rfl⟩ := Ty.form q1
  obtain ⟨B1, bA, bB, bC⟩ := box3 (cA := [_, _, _, _, _]) (cB := [_, _, _, _, _]) (cC := [_, _, _, _, _]) hb1
  replace q1 := q1.weaken (S' := fun b => w.heap.size + 2 < b) (fun b hb => by simp at hb; omega)
  clear hb1
  have c := bA.cell
  have f := bC.cell
  have fz := bC.frozen
  have zz := bC.lt
  have Q1 := Lib.hid q1
  clear q1
  have b := bB.cell
  have bz := bB.frozen
  go_wp2
  refine bodyPost_ret (v := .agg #[.string x.name, .int .i64 R10, .string R11, .slice R12A R12m R12c, .slice R13A R13m R13c]) (by simp [results, Tryz.results76, go_sem, b]) rfl ⟨[.string x.name, .int .i64 R10, .string R11, .slice R12A R12m R12c, .slice R13A R13m R13c], rfl, ?_, ?_⟩
  · refine D.Ats.weaken (S := fun b => w.heap.size + 2 < b) ?_ (fun b hb => by omega)
    repeat (refine D.Ats.set ?_ (by simp <;> omega) _)
    have p1 := Q1.out
    exact Pa.mk_ KzA0.out p1
  · repeat (refine Below.setCell ?_ (by simp <;> omega) _)
    exact B1

theorem info_iParam : (Tryz.prog.info? 96).map (fun i => (i.zero, i.size, i.bytes)) = some (some (.agg #[.string ⟨#[]⟩, .int .i64 0, .string ⟨#[]⟩, .slice none 0 0, .slice none 0 0]), 5, 88) := by kernel_rfl

set_option maxHeartbeats 1000000 in
theorem toParamS_w (l : List Pa) (hl : ∀ x ∈ l, ToParam x) (v : Value) (w : World) (hv : D.At w anyB (rows Pa.ds 5 l) v) (ht : (rows Pa.ds 5 l).total ≤ 1048576) :
    Calls Tryz.prog 40 #[v] w (RetD (rows Pa.ds 5 l) w) := by
  obtain ⟨A, cap, rfl, hn, hc⟩ := rows_form Pa.len hv
  unfold maxLen at hc
  rw [rows_total] at ht
  have HV := Lib.hid hv
  have HL := Lib.hid hl
  obtain ⟨i0, hi, hz0, hz1, hz2⟩ := info_parts info_iParam
  obtain ⟨cur, hcs, hmk⟩ := make_fact (P := Tryz.prog) Tryz.underlying43 hi hz0 hz1 hz2 l.length (by omega) (by omega) w
  have HC := Lib.hid (Filled.start w cur 96 5 l.length hcs)
  clear hv hl hi hz0 hz1 hz2 hcs
  go_enter Tryz.func40, Tryz.ntmps40
  go_wp2
  go_loopw [4] (fun i wr => ∃ k : Nat, k ≤ l.length ∧ i = .int .i64 k ∧ Filled w wr w.heap.size 96 5 l.length k ((l.take k).flatMap Pa.ds)) (fun i _ => l.length - (intOf i).toNat)
  case atStart => exact ⟨0, Nat.zero_le _, rfl, HC.out⟩
  case round =>
    obtain ⟨k, hk, rfl, hf⟩ := hrel
    have hb := hf.below
    by_cases hlt : k < l.length
    · obtain ⟨x, hx⟩ : ∃ x, l[k]? = some x := ⟨l[k], List.getElem?_eq_getElem hlt⟩
      obtain ⟨b, off, u0, u1, u2, u3, u4, rfl, -, hbl, hat, c0, c1, c2, c3, c4⟩ := rows_at5 Pa.len HV.out hx
      replace c0 := (hb.cell (p := ⟨b, off + k * 5, none⟩) hbl).trans c0
      replace c1 := (hb.cell (p := ⟨b, off + k * 5 + 1, none⟩) hbl).trans c1
      replace c2 := (hb.cell (p := ⟨b, off + k * 5 + 2, none⟩) hbl).trans c2
      replace c3 := (hb.cell (p := ⟨b, off + k * 5 + 3, none⟩) hbl).trans c3
      replace c4 := (hb.cell (p := ⟨b, off + k * 5 + 4, none⟩) hbl).trans c4
      have hxm : x ∈ l := List.mem_of_getElem? hx
      have hxt := totals_mem (f := Pa.ds) hxm
      have HD := Lib.hid (take_next (f := Pa.ds) hx)
      clear hx
      go_wp2_with fail
      refine (HL.out x hxm _ _ (hat.below hb) (by omega)).mono ?_
      rintro e w1 ⟨cs, rfl, hcs, hb1⟩
      have hf1 := hf.call hb1
      have hcs' : D.Ats w1 (fun b => w.heap.size < b) x.ds cs := hcs.weaken (fun b hb' => Nat.lt_of_lt_of_le hf.lt hb')
      clear hcs hb1 c0 c1 c2 c3 c4 hf hb
      obtain ⟨F0, F1, F2, F3A, F3m, F3c, F4A, F4m, F4c, rfl⟩ := Pa.form hcs'
      obtain ⟨o0, p0, q0⟩ := hf1.cells (k * 5) (by omega)
      obtain ⟨o1, p1, q1⟩ := hf1.cells (k * 5 + 1) (by omega)
      obtain ⟨o2, p2, q2⟩ := hf1.cells (k * 5 + 2) (by omega)
      obtain ⟨o3, p3, q3⟩ := hf1.cells (k * 5 + 3) (by omega)
      obtain ⟨o4, p4, q4⟩ := hf1.cells (k * 5 + 4) (by omega)
      have HF := Lib.hid (hf1.store hlt rfl hcs')
      clear hf1 hcs'
      go_wp2
      go_roundw
      case rel => exact ⟨k + 1, by omega, by go_num, by rw [HD.out]; exact HF.out⟩
      case measure => simp [intOf]; omega
    · obtain rfl : k = l.length := by omega
      have hd := hf.done (by unfold maxLen; omega)
      have HF := Lib.hid (And.intro hd hb)
      clear hd hb hf
      go_wp2
      go_ret
      refine ⟨_, rfl, ?_, HF.out.2⟩
      have := HF.out.1
      rw [List.take_length] at this
      exact this

set_option maxHeartbeats 1000000 in
theorem eqParam_w (x : Pa) : IsQ 79 Pa.ds Pa.same x := by
  intro y cs cs' w hcs hcs'
  obtain ⟨A0, A1, A2A, A2m, A2c, A3A, A3m, A3c, rfl, zA0, sA1⟩ := Pa.open_ hcs
  obtain ⟨B0, B1, B2A, B2m, B2c, B3A, B3m, B3c, rfl, zB0, sB1⟩ := Pa.open_ hcs'
  have hE : Pa.same x y = ((x.name.toList == y.name.toList) && (Ty.same x.ty y.ty)) := Pa.same_eq _ _
  have HE := Lib.hid hE
  have H1 := Lib.hid (And.intro sA1 sB1)
  clear hE zA0 zB0 sA1 sB1
  show Calls Tryz.prog 79 _ _ (fun e w' => e = .returned (.bool (Pa.same x y)) ∧ Below w.heap.size w w')
  cases h0 : (x.name.toList == y.name.toList)
  · have g0 : (x.name.toList != y.name.toList) = true := by simp [bne, h0]
    have E0 := Lib.hid h0
    go_enter Tryz.func79, Tryz.ntmps79
    go_wp2
    go_ret
    exact ⟨ret_eq (by rw [HE.out, E0.out]; try rfl), (by repeat (first | exact Below.refl _ _ | refine Below.alloc ?_ (by first | omega | (simp <;> omega)) _))⟩
  · have g0 : (x.name.toList != y.name.toList) = false := by simp [bne, h0]
    have E0 := Lib.hid h0
    go_enter Tryz.func79, Tryz.ntmps79
    go_wp2_with fail
    refine (eqType_w x.ty y.ty _ _ _ (H1.out.1.below (by repeat (first | exact Below.refl _ _ | refine Below.alloc ?_ (by first | omega | (simp <;> omega)) _))) (H1.out.2.below (by repeat (first | exact Below.refl _ _ | refine Below.alloc ?_ (by first | omega | (simp <;> omega)) _)))).mono ?_
    rintro e w1 ⟨rfl, hb1⟩
    obtain ⟨B1, bA, bB⟩ := box2 (cA := [_, _, _, _, _]) (cB := [_, _, _, _, _]) hb1
    clear hb1
    have c := bA.cell
    have d := bB.cell
    cases h1 : Ty.same x.ty y.ty
    · have E1 := Lib.hid h1
      clear h1
      go_wp2
      go_ret
      exact ⟨ret_eq (by rw [HE.out, E0.out, E1.out]; try rfl), B1⟩
    · have E1 := Lib.hid h1
      clear h1
      go_wp2
      go_ret
      exact ⟨ret_eq (by rw [HE.out, E0.out, E1.out]; try rfl), B1⟩

set_option maxHeartbeats 1000000 in
theorem eqParamS_w (l m : List Pa) (hl : ∀ x ∈ l, IsQ 79 Pa.ds Pa.same x) (v v' : Value) (w : World) (hv : D.At w anyB (rows Pa.ds 5 l) v) (hv' : D.At w anyB (rows Pa.ds 5 m) v') :
    Calls Tryz.prog 43 #[v, v'] w fun e w' => e = .returned (.bool (pairs Pa.same l m)) ∧ Below w.heap.size w w' := by
  obtain ⟨A, cap, rfl, hn, hc⟩ := rows_form Pa.len hv
  obtain ⟨A', cap', rfl, hn', hc'⟩ := rows_form Pa.len hv'
  unfold maxLen at hc hc'
  have HV := Lib.hid hv
  have HV' := Lib.hid hv'
  have HL := Lib.hid hl
  clear hv hv' hl
  by_cases hlm : l.length = m.length
  · have g1 : ((l.length : Int) != (m.length : Int)) = false := by simp [hlm]
    have HLM := Lib.hid hlm
    have hle : m.length ≤ l.length := by omega
    clear hlm
    go_enter Tryz.func43, Tryz.ntmps43
    go_wp2
    go_loopw [5] (fun i wr => ∃ k : Nat, k ≤ l.length ∧ i = .int .i64 k ∧ PairsTo Pa.same l m k ∧ Below w.heap.size w wr) (fun i _ => l.length - (intOf i).toNat)
    case atStart => exact ⟨0, Nat.zero_le _, rfl, PairsTo.zero _ _ _, Below.refl _ _⟩
    case round =>
      obtain ⟨k, hk, rfl, hst, hb⟩ := hrel
      by_cases hlt : k < l.length
      · obtain ⟨x, hx⟩ : ∃ x, l[k]? = some x := ⟨l[k], List.getElem?_eq_getElem hlt⟩
        obtain ⟨y, hy⟩ : ∃ y, m[k]? = some y := ⟨m[k]'(by have := HLM.out; omega), List.getElem?_eq_getElem (by have := HLM.out; omega)⟩
        have hltm : (k : Int) < (m.length : Int) := by have := HLM.out; omega
        have hk0 : (0 : Int) ≤ (k : Int) := by omega
        have hk1 : (k : Int) < (l.length : Int) := by omega
        obtain ⟨b, off, u0, u1, u2, u3, u4, rfl, -, hbl, hat, c0, c1, c2, c3, c4⟩ := rows_at5 Pa.len HV.out hx
        obtain ⟨b', off', v0, v1, v2, v3, v4, rfl, -, hbl', hat', d0, d1, d2, d3, d4⟩ := rows_at5 Pa.len HV'.out hy
        replace c0 := cell_regrown ((hb.cell (p := ⟨b, off + k * 5, none⟩) hbl).trans c0)
        replace c1 := cell_regrown ((hb.cell (p := ⟨b, off + k * 5 + 1, none⟩) hbl).trans c1)
        replace c2 := cell_regrown ((hb.cell (p := ⟨b, off + k * 5 + 2, none⟩) hbl).trans c2)
        replace c3 := cell_regrown ((hb.cell (p := ⟨b, off + k * 5 + 3, none⟩) hbl).trans c3)
        replace c4 := cell_regrown ((hb.cell (p := ⟨b, off + k * 5 + 4, none⟩) hbl).trans c4)
        replace d0 := cell_regrown ((hb.cell (p := ⟨b', off' + k * 5, none⟩) hbl').trans d0)
        replace d1 := cell_regrown ((hb.cell (p := ⟨b', off' + k * 5 + 1, none⟩) hbl').trans d1)
        replace d2 := cell_regrown ((hb.cell (p := ⟨b', off' + k * 5 + 2, none⟩) hbl').trans d2)
        replace d3 := cell_regrown ((hb.cell (p := ⟨b', off' + k * 5 + 3, none⟩) hbl').trans d3)
        replace d4 := cell_regrown ((hb.cell (p := ⟨b', off' + k * 5 + 4, none⟩) hbl').trans d4)
        have hxm : x ∈ l := List.mem_of_getElem? hx
        have HN := Lib.hid (And.intro hx (And.intro hy hst))
        clear hx hy hst
        go_wp2_with fail
        refine wp_region_quiet_below (by kernel_rfl) (by kernel_rfl) ?_
        repeat (quiet_step (exact Calls.regrown_of (HL.out x hxm y _ _ _ ((hat.below hb).below (below_regrown _ _ _)) ((hat'.below hb).below (below_regrown _ _ _)))))
        refine wpQuiet_nil ?_
        intro w2 hw2
        have hb2 := hb.trans ((below_of_regrown hw2).mono hb.size)
        clear hw2 c0 c1 c2 c3 c4 d0 d1 d2 d3 d4
        cases hs : Pa.same x y
        · have HB := Lib.hid (pairs_bad HN.out.1 HN.out.2.1 hs)
          go_wp2
          go_ret
          exact ⟨ret_eq (by rw [HB.out]; rfl), hb2⟩
        · have HB := Lib.hid (HN.out.2.2.next HN.out.1 HN.out.2.1 hs)
          go_wp2
          go_roundw
          case rel => exact ⟨k + 1, by omega, by go_num, HB.out, hb2⟩
          case measure => simp [intOf]; omega
      · obtain rfl : k = l.length := by omega
        have HB := Lib.hid (PairsTo.end_ HLM.out hst)
        go_wp2
        go_ret
        exact ⟨ret_eq (by rw [HB.out]; rfl), hb⟩
  · have g1 : ((l.length : Int) != (m.length : Int)) = true := by rw [bne_iff_ne]; omega
    rw [pairs_len hlm]
    go_enter Tryz.func43, Tryz.ntmps43
    go_wp2
    go_ret
    exact ⟨rfl, Below.refl _ _⟩

end Go.Proofs.YtoioljkhinodaaaGreatDoor
