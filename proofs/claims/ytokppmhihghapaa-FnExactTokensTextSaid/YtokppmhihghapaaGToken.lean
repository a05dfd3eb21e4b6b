/- Token: how much the law counts, its deep copy, its comparison. -/
import Derived.Test.YtokppmhihghapaaGStrs
import Derived.Test.YtokppmhihghapaaTyM
namespace Go.Proofs.Ytokppmhihghapaa
open Go.RowKit

def SzToken (x : Tok) : Prop := ∀ (cs : List Value) (a : Int) (w : World), D.Ats w anyB x.ds cs → 0 ≤ a → a ≤ 1048576 →
  Calls Try.prog 69 #[.agg cs.toArray, .int .i64 a] w fun e w' => e = .returned (.int .i64 (left a (D.totals x.ds))) ∧ Below w.heap.size w w'

set_option maxHeartbeats 1000000 in
theorem szToken_w (x : Tok) : SzToken x := by
  intro cs a w hcs h0 h1
  obtain ⟨rfl, iA0, zA1, iA2⟩ := Tok.open_ hcs
  have hT : D.totals x.ds = x.text.size := by simp [Tok.ds, D.totals, D.total]
  have HT := Lib.hid hT
  unfold maxLen at zA1
  clear hT
  by_cases g1 : (x.text.size : Int) ≤ a
  · skip
    go_enter Try.func69, Try.ntmps69
    go_wp2
    go_ret
    have e9 : left a (D.totals x.ds) = a - (x.text.size : Int) := by rw [left_yes (by rw [HT.out]; omega), HT.out]; first | done | omega
    exact ⟨ret_eq (by rw [e9]; try rfl), (by repeat (first | exact Below.refl _ _ | refine Below.alloc ?_ (by first | omega | (simp <;> omega)) _))⟩
  · skip
    go_enter Try.func69, Try.ntmps69
    go_wp2
    go_ret
    exact ⟨ret_eq (by rw [left_no (by rw [HT.out]; omega)]; try rfl), (by repeat (first | exact Below.refl _ _ | refine Below.alloc ?_ (by first | omega | (simp <;> omega)) _))⟩

set_option maxHeartbeats 1000000 in
theorem szTokenS_w (l : List Tok) (hl : ∀ x ∈ l, SzToken x) (v : Value) (a : Int) (w : World) (hv : D.At w anyB (rows Tok.ds 3 l) v) (h0 : 0 ≤ a) (h1 : a ≤ 1048576) :
    Calls Try.prog 26 #[v, .int .i64 a] w fun e w' => e = .returned (.int .i64 (left a (rows Tok.ds 3 l).total)) ∧ Below w.heap.size w w' := by
  obtain ⟨A, cap, rfl, hn, hc⟩ := rows_form Tok.len hv
  unfold maxLen at hc
  have HV := Lib.hid hv
  have HL := Lib.hid hl
  clear hv hl
  rw [rows_total]
  by_cases hlen : (l.length : Int) ≤ a
  · go_enter Try.func26, Try.ntmps26
    go_wp2
    go_loopw [1, 5] (fun a' i wr => ∃ (k : Nat) (q : Int), k ≤ l.length ∧ i = .int .i64 k ∧ a' = .int .i64 q ∧ q = a - l.length - (D.totals ((l.take k).flatMap Tok.ds) : Int) ∧ 0 ≤ q ∧ Below w.heap.size w wr) (fun _ i _ => l.length - (intOf i).toNat)
    case atStart => exact ⟨0, _, Nat.zero_le _, rfl, rfl, by simp [D.totals], by omega, Below.refl _ _⟩
    case round =>
      obtain ⟨k, q, hk, rfl, rfl, hq, hq0, hb⟩ := hrel
      have HQ := Lib.hid hq
      have hq1 : q ≤ 1048576 := by omega
      clear hq
      by_cases hlt : k < l.length
      · obtain ⟨x, hx⟩ : ∃ x, l[k]? = some x := ⟨l[k], List.getElem?_eq_getElem hlt⟩
        obtain ⟨b, off, u0, u1, u2, rfl, -, hbl, hat, c0, c1, c2⟩ := rows_at3 Tok.len HV.out hx
        replace c0 := (hb.cell (p := ⟨b, off + k * 3, none⟩) hbl).trans c0
        replace c1 := (hb.cell (p := ⟨b, off + k * 3 + 1, none⟩) hbl).trans c1
        replace c2 := (hb.cell (p := ⟨b, off + k * 3 + 2, none⟩) hbl).trans c2
        have hxm : x ∈ l := List.mem_of_getElem? hx
        have ht : D.totals ((l.take (k + 1)).flatMap Tok.ds) = D.totals ((l.take k).flatMap Tok.ds) + D.totals x.ds := by rw [take_next hx, D.totals_append]
        have htl := totals_take (f := Tok.ds) l (k + 1)
        have HT := Lib.hid (And.intro ht htl)
        clear ht htl hx
        go_wp2_with fail
        refine (HL.out x hxm _ q _ (hat.below hb) hq0 hq1).mono ?_
        rintro e w1 ⟨rfl, hb1⟩
        have hb2 := hb.trans (hb1.mono hb.size)
        clear hb hb1 c0 c1 c2
        by_cases hle : (D.totals x.ds : Int) ≤ q
        · have hg : 0 ≤ q - (D.totals x.ds : Int) := by omega
          rw [left_yes hle]
          go_wp2
          go_roundw
          case rel =>
            refine ⟨k + 1, q - D.totals x.ds, by omega, by go_num, rfl, ?_, hg, hb2⟩
            rw [HT.out.1, HQ.out]; omega
          case measure => simp [intOf]; omega
        · rw [left_no hle]
          go_wp2
          go_ret
          refine ⟨ret_eq ?_, hb2⟩
          rw [left_no (by have := HT.out; have := HQ.out; omega)]
          rfl
      · go_wp2
        go_ret
        refine ⟨ret_eq ?_, hb⟩
        have hk' : l.take k = l := List.take_of_length_le (by omega)
        have e := HQ.out
        rw [hk'] at e
        have e2 : left a (l.length + D.totals (l.flatMap Tok.ds)) = q := by rw [left_yes (by omega)]; omega
        rw [e2]
        rfl
  · rw [left_no (by omega)]
    go_enter Try.func26, Try.ntmps26
    go_wp2
    go_ret
    exact ⟨rfl, Below.refl _ _⟩

def ToToken (x : Tok) : Prop := ∀ (cs : List Value) (w : World), D.Ats w anyB x.ds cs → D.totals x.ds ≤ 1048576 → Calls Try.prog 70 #[.agg cs.toArray] w (RetDs x.ds w)

set_option maxHeartbeats 1000000 in
theorem toToken_w (x : Tok) : ToToken x := by
  intro cs w hcs htot
  obtain ⟨rfl, iA0, zA1, iA2⟩ := Tok.open_ hcs
  have hT : D.totals x.ds = x.text.size := by simp [Tok.ds, D.totals, D.total]
  rw [hT] at htot
  have KiA0 := Lib.hid iA0
  have KzA1 := Lib.hid zA1
  have KiA2 := Lib.hid iA2
  clear hT iA0 zA1 iA2
  go_enter Try.func70, Try.ntmps70
  go_wp2
  refine bodyPost_ret (v := .agg #[.int .i64 x.kind, .string x.text, .int .i64 x.line]) (by simp [results, Try.results70, go_sem]) rfl ⟨[.int .i64 x.kind, .string x.text, .int .i64 x.line], rfl, ?_, ?_⟩
  · exact Tok.mk_ KiA0.out KzA1.out KiA2.out
  · repeat (first | exact Below.refl _ _ | refine Below.alloc ?_ (by first | omega | (simp <;> omega)) _)

theorem info_iToken : (Try.prog.info? 106).map (fun i => (i.zero, i.size, i.bytes)) = some (some (.agg #[.int .i64 0, .string ⟨#[]⟩, .int .i64 0]), 3, 32) := by kernel_rfl

set_option maxHeartbeats 1000000 in
theorem toTokenS_w (l : List Tok) (hl : ∀ x ∈ l, ToToken x) (v : Value) (w : World) (hv : D.At w anyB (rows Tok.ds 3 l) v) (ht : (rows Tok.ds 3 l).total ≤ 1048576) :
    Calls Try.prog 28 #[v] w (RetD (rows Tok.ds 3 l) w) := by
  obtain ⟨A, cap, rfl, hn, hc⟩ := rows_form Tok.len hv
  unfold maxLen at hc
  rw [rows_total] at ht
  have HV := Lib.hid hv
  have HL := Lib.hid hl
  obtain ⟨i0, hi, hz0, hz1, hz2⟩ := info_parts info_iToken
  obtain ⟨cur, hcs, hmk⟩ := make_fact (P := Try.prog) Try.underlying43 hi hz0 hz1 hz2 l.length (by omega) (by omega) w
  have HC := Lib.hid (Filled.start w cur 106 3 l.length hcs)
  clear hv hl hi hz0 hz1 hz2 hcs
  go_enter Try.func28, Try.ntmps28
  go_wp2
  go_loopw [4] (fun i wr => ∃ k : Nat, k ≤ l.length ∧ i = .int .i64 k ∧ Filled w wr w.heap.size 106 3 l.length k ((l.take k).flatMap Tok.ds)) (fun i _ => l.length - (intOf i).toNat)
  case atStart => exact ⟨0, Nat.zero_le _, rfl, HC.out⟩
  case round =>
    obtain ⟨k, hk, rfl, hf⟩ := hrel
    have hb := hf.below
    by_cases hlt : k < l.length
    · obtain ⟨x, hx⟩ : ∃ x, l[k]? = some x := ⟨l[k], List.getElem?_eq_getElem hlt⟩
      obtain ⟨b, off, u0, u1, u2, rfl, -, hbl, hat, c0, c1, c2⟩ := rows_at3 Tok.len HV.out hx
      replace c0 := (hb.cell (p := ⟨b, off + k * 3, none⟩) hbl).trans c0
      replace c1 := (hb.cell (p := ⟨b, off + k * 3 + 1, none⟩) hbl).trans c1
      replace c2 := (hb.cell (p := ⟨b, off + k * 3 + 2, none⟩) hbl).trans c2
      have hxm : x ∈ l := List.mem_of_getElem? hx
      have hxt := totals_mem (f := Tok.ds) hxm
      have HD := Lib.hid (take_next (f := Tok.ds) hx)
      clear hx
      go_wp2_with fail
      refine (HL.out x hxm _ _ (hat.below hb) (by omega)).mono ?_
      rintro e w1 ⟨cs, rfl, hcs, hb1⟩
      have hf1 := hf.call hb1
      have hcs' : D.Ats w1 (fun b => w.heap.size < b) x.ds cs := hcs.weaken (fun b hb' => Nat.lt_of_lt_of_le hf.lt hb')
      clear hcs hb1 c0 c1 c2 hf hb
      obtain ⟨F0, F1, F2, rfl⟩ := Tok.form hcs'
      obtain ⟨o0, p0, q0⟩ := hf1.cells (k * 3) (by omega)
      obtain ⟨o1, p1, q1⟩ := hf1.cells (k * 3 + 1) (by omega)
      obtain ⟨o2, p2, q2⟩ := hf1.cells (k * 3 + 2) (by omega)
      have HF := Lib.hid (hf1.store hlt rfl hcs')
      clear hf1 hcs'
      go_wp2
      go_roundw
      case rel => exact ⟨k + 1, by omega, by go_num, by rw [HD.out]; exact HF.out⟩
      case measure => simp [intOf]; omega
    · obtain rfl : k = l.length := by omega
      have hd := hf.done (by unfold maxLen; omega)
      have HF := Lib.hid (And.intro hd hb)
      clear hd hb hf
      go_wp2
      go_ret
      refine ⟨_, rfl, ?_, HF.out.2⟩
      have := HF.out.1
      rw [List.take_length] at this
      exact this

set_option maxHeartbeats 1000000 in
theorem eqToken_w (x : Tok) : IsQ 73 Tok.ds Tok.same x := by
  intro y cs cs' w hcs hcs'
  obtain ⟨rfl, iA0, zA1, iA2⟩ := Tok.open_ hcs
  obtain ⟨rfl, iB0, zB1, iB2⟩ := Tok.open_ hcs'
  have hE : Tok.same x y = ((x.kind == y.kind) && ((x.text.toList == y.text.toList) && ((x.line == y.line)))) := Tok.same_eq _ _
  have HE := Lib.hid hE
  clear hE iA0 iB0 zA1 zB1 iA2 iB2
  show Calls Try.prog 73 _ _ (fun e w' => e = .returned (.bool (Tok.same x y)) ∧ Below w.heap.size w w')
  cases h0 : (x.kind == y.kind)
  · have g0 : (x.kind != y.kind) = true := by simp [bne, h0]
    have E0 := Lib.hid h0
    go_enter Try.func73, Try.ntmps73
    go_wp2
    go_ret
    exact ⟨ret_eq (by rw [HE.out, E0.out]; try rfl), (by repeat (first | exact Below.refl _ _ | refine Below.alloc ?_ (by first | omega | (simp <;> omega)) _))⟩
  · have g0 : (x.kind != y.kind) = false := by simp [bne, h0]
    have E0 := Lib.hid h0
    cases h1 : (x.text.toList == y.text.toList)
    · have g1 : (x.text.toList != y.text.toList) = true := by simp [bne, h1]
      have E1 := Lib.hid h1
      go_enter Try.func73, Try.ntmps73
      go_wp2
      go_ret
      exact ⟨ret_eq (by rw [HE.out, E0.out, E1.out]; try rfl), (by repeat (first | exact Below.refl _ _ | refine Below.alloc ?_ (by first | omega | (simp <;> omega)) _))⟩
    · have g1 : (x.text.toList != y.text.toList) = false := by simp [bne, h1]
      have E1 := Lib.hid h1
      cases h2 : (x.line == y.line)
      · have g2 : (x.line != y.line) = true := by simp [bne, h2]
        have E2 := Lib.hid h2
        go_enter Try.func73, Try.ntmps73
        go_wp2
        go_ret
        exact ⟨ret_eq (by rw [HE.out, E0.out, E1.out, E2.out]; try rfl), (by repeat (first | exact Below.refl _ _ | refine Below.alloc ?_ (by first | omega | (simp <;> omega)) _))⟩
      · have g2 : (x.line != y.line) = false := by simp [bne, h2]
        have E2 := Lib.hid h2
        go_enter Try.func73, Try.ntmps73
        go_wp2
        go_ret
        exact ⟨ret_eq (by rw [HE.out, E0.out, E1.out, E2.out]; try rfl), (by repeat (first | exact Below.refl _ _ | refine Below.alloc ?_ (by first | omega | (simp <;> omega)) _))⟩

set_option maxHeartbeats 1000000 in
theorem eqTokenS_w (l m : List Tok) (hl : ∀ x ∈ l, IsQ 73 Tok.ds Tok.same x) (v v' : Value) (w : World) (hv : D.At w anyB (rows Tok.ds 3 l) v) (hv' : D.At w anyB (rows Tok.ds 3 m) v') :
    Calls Try.prog 30 #[v, v'] w fun e w' => e = .returned (.bool (pairs Tok.same l m)) ∧ Below w.heap.size w w' := by
  obtain ⟨A, cap, rfl, hn, hc⟩ := rows_form Tok.len hv
  obtain ⟨A', cap', rfl, hn', hc'⟩ := rows_form Tok.len hv'
  unfold maxLen at hc hc'
  have HV := Lib.hid hv
  have HV' := Lib.hid hv'
  have HL := Lib.hid hl
  clear hv hv' hl
  by_cases hlm : l.length = m.length
  · have g1 : ((l.length : Int) != (m.length : Int)) = false := by simp [hlm]
    have HLM := Lib.hid hlm
    have hle : m.length ≤ l.length := by omega
    clear hlm
    go_enter Try.func30, Try.ntmps30
    go_wp2
    go_loopw [5] (fun i wr => ∃ k : Nat, k ≤ l.length ∧ i = .int .i64 k ∧ PairsTo Tok.same l m k ∧ Below w.heap.size w wr) (fun i _ => l.length - (intOf i).toNat)
    case atStart => exact ⟨0, Nat.zero_le _, rfl, PairsTo.zero _ _ _, Below.refl _ _⟩
    case round =>
      obtain ⟨k, hk, rfl, hst, hb⟩ := hrel
      by_cases hlt : k < l.length
      · obtain ⟨x, hx⟩ : ∃ x, l[k]? = some x := ⟨l[k], List.getElem?_eq_getElem hlt⟩
        obtain ⟨y, hy⟩ : ∃ y, m[k]? = some y := ⟨m[k]'(by have := HLM.out; omega), List.getElem?_eq_getElem (by have := HLM.out; omega)⟩
        have hltm : (k : Int) < (m.length : Int) := by have := HLM.out; omega
        have hk0 : (0 : Int) ≤ (k : Int) := by omega
        have hk1 : (k : Int) < (l.length : Int) := by omega
        obtain ⟨b, off, u0, u1, u2, rfl, -, hbl, hat, c0, c1, c2⟩ := rows_at3 Tok.len HV.out hx
        obtain ⟨b', off', v0, v1, v2, rfl, -, hbl', hat', d0, d1, d2⟩ := rows_at3 Tok.len HV'.out hy
        replace c0 := cell_regrown ((hb.cell (p := ⟨b, off + k * 3, none⟩) hbl).trans c0)
        replace c1 := cell_regrown ((hb.cell (p := ⟨b, off + k * 3 + 1, none⟩) hbl).trans c1)
        replace c2 := cell_regrown ((hb.cell (p := ⟨b, off + k * 3 + 2, none⟩) hbl).trans c2)
        replace d0 := cell_regrown ((hb.cell (p := ⟨b', off' + k * 3, none⟩) hbl').trans d0)
        replace d1 := cell_regrown ((hb.cell (p := ⟨b', off' + k * 3 + 1, none⟩) hbl').trans d1)
        replace d2 := cell_regrown ((hb.cell (p := ⟨b', off' + k * 3 + 2, none⟩) hbl').trans d2)
        have hxm : x ∈ l := List.mem_of_getElem? hx
        have HN := Lib.hid (And.intro hx (And.intro hy hst))
        clear hx hy hst
        go_wp2_with fail
        refine wp_region_quiet_below (by kernel_rfl) (by kernel_rfl) ?_
        repeat (quiet_step (exact Calls.regrown_of (HL.out x hxm y _ _ _ ((hat.below hb).below (below_regrown _ _ _)) ((hat'.below hb).below (below_regrown _ _ _)))))
        refine wpQuiet_nil ?_
        intro w2 hw2
        have hb2 := hb.trans ((below_of_regrown hw2).mono hb.size)
        clear hw2 c0 c1 c2 d0 d1 d2
        cases hs : Tok.same x y
        · have HB := Lib.hid (pairs_bad HN.out.1 HN.out.2.1 hs)
          go_wp2
          go_ret
          exact ⟨ret_eq (by rw [HB.out]; rfl), hb2⟩
        · have HB := Lib.hid (HN.out.2.2.next HN.out.1 HN.out.2.1 hs)
          go_wp2
          go_roundw
          case rel => exact ⟨k + 1, by omega, by go_num, HB.out, hb2⟩
          case measure => simp [intOf]; omega
      · obtain rfl : k = l.length := by omega
        have HB := Lib.hid (PairsTo.end_ HLM.out hst)
        go_wp2
        go_ret
        exact ⟨ret_eq (by rw [HB.out]; rfl), hb⟩
  · have g1 : ((l.length : Int) != (m.length : Int)) = true := by rw [bne_iff_ne]; omega
    rw [pairs_len hlm]
    go_enter Try.func30, Try.ntmps30
    go_wp2
    go_ret
    exact ⟨rfl, Below.refl _ _⟩

end Go.Proofs.Ytokppmhihghapaa
