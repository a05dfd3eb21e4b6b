/- SameTokens: what the program's and the reference's function compute, and the law. -/
import Derived.Test.YtokppmhihghapaaGToken
import Derived.Test.YtokppmhihghapaaOToken
import Derived.Test.YtokppmhihghapaaSameTy
namespace Go.Proofs.Ytokppmhihghapaa
open Go.RowKit Go.ChangeShapes Go.WideShapes

/-- Kinds and texts are the same. -/
def tkEq (x y : Tok) : Bool := (x.kind == y.kind) && (x.text.toList == y.text.toList)
theorem tkEq_eq (x y : Tok) : tkEq x y = ((x.kind == y.kind) && (x.text.toList == y.text.toList)) := rfl

set_option maxHeartbeats 1000000 in
theorem sameTokens_s (l m : List Tok) (v v' : Value) (w : World) (hv : D.At w anyB (rows Tok.ds 3 l) v) (hv' : D.At w anyB (rows Tok.ds 3 m) v') :
    Calls Try.prog 27 #[v, v'] w fun e w' => e = .returned (.bool (pairs tkEq l m)) ∧ Below w.heap.size w w' := by
  obtain ⟨A, cap, rfl, hn, hc⟩ := rows_form Tok.len hv
  obtain ⟨A', cap', rfl, hn', hc'⟩ := rows_form Tok.len hv'
  unfold maxLen at hc hc'
  have HV := Lib.hid hv
  have HV' := Lib.hid hv'
  clear hv hv'
  by_cases hlm : l.length = m.length
  · have g1 : ((l.length : Int) != (m.length : Int)) = false := by simp [hlm]
    have HLM := Lib.hid hlm
    have hle : m.length ≤ l.length := by omega
    clear hlm
    go_enter Try.func27, Try.ntmps27
    go_wp2
    go_loopw [5] (fun i wr => ∃ k : Nat, k ≤ l.length ∧ i = .int .i64 k ∧ PairsTo tkEq l m k ∧ Below w.heap.size w wr) (fun i _ => l.length - (intOf i).toNat)
    case atStart => exact ⟨0, Nat.zero_le _, rfl, PairsTo.zero _ _ _, Below.refl _ _⟩
    case round =>
      obtain ⟨k, hk, rfl, hst, hb⟩ := hrel
      by_cases hlt : k < l.length
      · obtain ⟨x, hx⟩ : ∃ x, l[k]? = some x := ⟨l[k], List.getElem?_eq_getElem hlt⟩
        obtain ⟨y, hy⟩ : ∃ y, m[k]? = some y := ⟨m[k]'(by have := HLM.out; omega), List.getElem?_eq_getElem (by have := HLM.out; omega)⟩
        have hltm : (k : Int) < (m.length : Int) := by have := HLM.out; omega
        have hk0 : (0 : Int) ≤ (k : Int) := by omega
        have hk1 : (k : Int) < (l.length : Int) := by omega
        obtain ⟨b, off, u0, u1, u2, rfl, -, hbl, hat, c0, c1, c2⟩ := rows_at3 Tok.len HV.out hx
        obtain ⟨b', off', v0, v1, v2, rfl, -, hbl', hat', d0, d1, d2⟩ := rows_at3 Tok.len HV'.out hy
        replace c0 := cell_regrown ((hb.cell (p := ⟨b, off + k * 3, none⟩) hbl).trans c0)
        replace c1 := cell_regrown ((hb.cell (p := ⟨b, off + k * 3 + 1, none⟩) hbl).trans c1)
        replace c2 := cell_regrown ((hb.cell (p := ⟨b, off + k * 3 + 2, none⟩) hbl).trans c2)
        replace d0 := cell_regrown ((hb.cell (p := ⟨b', off' + k * 3, none⟩) hbl').trans d0)
        replace d1 := cell_regrown ((hb.cell (p := ⟨b', off' + k * 3 + 1, none⟩) hbl').trans d1)
        replace d2 := cell_regrown ((hb.cell (p := ⟨b', off' + k * 3 + 2, none⟩) hbl').trans d2)
        obtain ⟨ex, -, -, -⟩ := Tok.open_ hat
        obtain ⟨ey, -, -, -⟩ := Tok.open_ hat'
        simp only [List.cons.injEq, and_true] at ex ey
        obtain ⟨rfl, rfl, rfl⟩ := ex
        obtain ⟨rfl, rfl, rfl⟩ := ey
        have HN := Lib.hid (And.intro hx (And.intro hy hst))
        clear hx hy hst hat hat'
        cases h1 : (x.kind == y.kind)
        · have g1 : (x.kind != y.kind) = true := by simp [bne, h1]
          have HB := Lib.hid (pairs_bad (q := tkEq) HN.out.1 HN.out.2.1 (by rw [tkEq_eq, h1]; rfl))
          go_wp2_with fail
          refine wp_region_quiet_below (by kernel_rfl) (by kernel_rfl) ?_
          repeat (first | go_big_quiet_step (fail) | quiet_step (fail))
          refine wpQuiet_nil ?_
          intro w2 hw2
          have hb2 := hb.trans ((below_of_regrown hw2).mono hb.size)
          clear h1 g1 hw2 c0 c1 c2 d0 d1 d2
          go_wp2
          go_ret
          exact ⟨ret_eq (by rw [HB.out]; rfl), hb2⟩
        · have g1 : (x.kind != y.kind) = false := by simp [bne, h1]
          cases h2 : (x.text.toList == y.text.toList)
          · have g2 : (x.text.toList != y.text.toList) = true := by simp [bne, h2]
            have HB := Lib.hid (pairs_bad (q := tkEq) HN.out.1 HN.out.2.1 (by rw [tkEq_eq, h2]; simp))
            go_wp2_with fail
            refine wp_region_quiet_below (by kernel_rfl) (by kernel_rfl) ?_
            repeat (first | go_big_quiet_step (fail) | quiet_step (fail))
            refine wpQuiet_nil ?_
            intro w2 hw2
            have hb2 := hb.trans ((below_of_regrown hw2).mono hb.size)
            clear h1 g1 h2 g2 hw2 c0 c1 c2 d0 d1 d2
            go_wp2
            go_ret
            exact ⟨ret_eq (by rw [HB.out]; rfl), hb2⟩
          · have g2 : (x.text.toList != y.text.toList) = false := by simp [bne, h2]
            have HB := Lib.hid (HN.out.2.2.next HN.out.1 HN.out.2.1 (show tkEq x y = true by rw [tkEq_eq, h1, h2]; rfl))
            go_wp2_with fail
            refine wp_region_quiet_below (by kernel_rfl) (by kernel_rfl) ?_
            repeat (first | go_big_quiet_step (fail) | quiet_step (fail))
            refine wpQuiet_nil ?_
            intro w2 hw2
            have hb2 := hb.trans ((below_of_regrown hw2).mono hb.size)
            clear h1 g1 h2 g2 hw2 c0 c1 c2 d0 d1 d2
            go_wp2
            go_roundw
            case rel => exact ⟨k + 1, by omega, by go_num, HB.out, hb2⟩
            case measure => simp [intOf]; omega
      · obtain rfl : k = l.length := by omega
        have HB := Lib.hid (PairsTo.end_ HLM.out hst)
        go_wp2
        go_ret
        exact ⟨ret_eq (by rw [HB.out]; rfl), hb⟩
  · have g1 : ((l.length : Int) != (m.length : Int)) = true := by rw [bne_iff_ne]; omega
    rw [pairs_len hlm]
    go_enter Try.func27, Try.ntmps27
    go_wp2
    go_ret
    exact ⟨rfl, Below.refl _ _⟩

set_option maxHeartbeats 1000000 in
set_option maxRecDepth 20000 in
theorem sameTokens_clo (x : Tok) : IsQ 72 Tok.ds tkEq x := by
  intro y cs cs' w hcs hcs'
  have HE := Lib.hid (tkEq_eq x y)
  obtain ⟨rfl, iA0, zA1, iA2⟩ := Tok.open_ hcs
  obtain ⟨rfl, iB0, zB1, iB2⟩ := Tok.open_ hcs'
  clear hcs hcs' iA0 iB0 zA1 zB1 iA2 iB2
  cases h0 : (x.kind == y.kind)
  · have g0 : (x.kind != y.kind) = true := by simp [bne, h0]
    have E0 := Lib.hid h0
    go_enter Try.func72, Try.ntmps72
    go_wp2
    go_ret
    exact ⟨ret_eq (by rw [HE.out]; simp [E0.out]), (by repeat (first | exact Below.refl _ _ | refine Below.alloc ?_ (by first | omega | (simp <;> omega)) _))⟩
  · have g0 : (x.kind != y.kind) = false := by simp [bne, h0]
    have E0 := Lib.hid h0
    cases h1 : (x.text.toList == y.text.toList)
    · have g1 : (x.text.toList != y.text.toList) = true := by simp [bne, h1]
      have E1 := Lib.hid h1
      go_enter Try.func72, Try.ntmps72
      go_wp2
      go_ret
      exact ⟨ret_eq (by rw [HE.out]; simp [E1.out]), (by repeat (first | exact Below.refl _ _ | refine Below.alloc ?_ (by first | omega | (simp <;> omega)) _))⟩
    · have g1 : (x.text.toList != y.text.toList) = false := by simp [bne, h1]
      have E1 := Lib.hid h1
      go_enter Try.func72, Try.ntmps72
      go_wp2
      go_ret
      exact ⟨ret_eq (by rw [HE.out]; simp [E0.out, E1.out]), (by repeat (first | exact Below.refl _ _ | refine Below.alloc ?_ (by first | omega | (simp <;> omega)) _))⟩

set_option maxHeartbeats 1000000 in
theorem equalFunc_Token (q : Tok → Tok → Bool) (l m : List Tok) (hl : ∀ x ∈ l, IsQ 72 Tok.ds q x) (v v' : Value) (w : World) (hv : D.At w anyB (rows Tok.ds 3 l) v) (hv' : D.At w anyB (rows Tok.ds 3 m) v') :
    Calls Try.prog 71 #[v, v', .func (.func 72) #[] #[]] w fun e w' => e = .returned (.bool (pairs q l m)) ∧ Below w.heap.size w w' := by
  obtain ⟨A, cap, rfl, hn, hc⟩ := rows_form Tok.len hv
  obtain ⟨A', cap', rfl, hn', hc'⟩ := rows_form Tok.len hv'
  unfold maxLen at hc hc'
  have HV := Lib.hid hv
  have HV' := Lib.hid hv'
  have HL := Lib.hid hl
  clear hv hv' hl
  by_cases hlm : l.length = m.length
  · have g1 : ((l.length : Int) != (m.length : Int)) = false := by simp [hlm]
    have HLM := Lib.hid hlm
    have hle : m.length ≤ l.length := by omega
    clear hlm
    go_enter Try.func71, Try.ntmps71
    go_wp2
    go_loopw [7, 8, 9, 17] (fun _ _ _ i wr => ∃ k : Nat, k ≤ l.length ∧ i = .int .i64 k ∧ PairsTo q l m k ∧ Below w.heap.size w wr) (fun _ _ _ i _ => l.length - (intOf i).toNat)
    case atStart => exact ⟨0, Nat.zero_le _, rfl, PairsTo.zero _ _ _, Below.refl _ _⟩
    case round =>
      obtain ⟨k, hk, rfl, hst, hb⟩ := hrel
      by_cases hlt : k < l.length
      · obtain ⟨x, hx⟩ : ∃ x, l[k]? = some x := ⟨l[k], List.getElem?_eq_getElem hlt⟩
        obtain ⟨y, hy⟩ : ∃ y, m[k]? = some y := ⟨m[k]'(by have := HLM.out; omega), List.getElem?_eq_getElem (by have := HLM.out; omega)⟩
        have hltm : (k : Int) < (m.length : Int) := by have := HLM.out; omega
        have hk0 : (0 : Int) ≤ (k : Int) := by omega
        have hk1 : (k : Int) < (l.length : Int) := by omega
        obtain ⟨b, off, u0, u1, u2, rfl, -, hbl, hat, c0, c1, c2⟩ := rows_at3 Tok.len HV.out hx
        obtain ⟨b', off', v0, v1, v2, rfl, -, hbl', hat', d0, d1, d2⟩ := rows_at3 Tok.len HV'.out hy
        replace c0 := (hb.cell (p := ⟨b, off + k * 3, none⟩) hbl).trans c0
        replace c1 := (hb.cell (p := ⟨b, off + k * 3 + 1, none⟩) hbl).trans c1
        replace c2 := (hb.cell (p := ⟨b, off + k * 3 + 2, none⟩) hbl).trans c2
        replace d0 := (hb.cell (p := ⟨b', off' + k * 3, none⟩) hbl').trans d0
        replace d1 := (hb.cell (p := ⟨b', off' + k * 3 + 1, none⟩) hbl').trans d1
        replace d2 := (hb.cell (p := ⟨b', off' + k * 3 + 2, none⟩) hbl').trans d2
        have hxm : x ∈ l := List.mem_of_getElem? hx
        have HX := Lib.hid (HL.out x hxm)
        have HN := Lib.hid (And.intro hx (And.intro hy hst))
        have hbw := Nat.lt_of_lt_of_le hbl hb.size
        have hbw' := Nat.lt_of_lt_of_le hbl' hb.size
        clear hx hy hst hxm
        obtain ⟨x0, x1, x2, e3⟩ := Tok.form hat
        obtain ⟨y0, y1, y2, e3'⟩ := Tok.form hat'
        simp only [List.cons.injEq, and_true] at e3 e3'
        obtain ⟨rfl, rfl, rfl⟩ := e3
        obtain ⟨rfl, rfl, rfl⟩ := e3'
        have HA := Lib.hid (And.intro (hat.below hb) (hat'.below hb))
        clear hat hat'
        go_wp2_with fail
        refine (HX.out _ _ _ _ (HA.out.1.below (by repeat (first | exact Below.refl _ _ | refine Below.alloc ?_ (by first | omega | (simp <;> omega)) _))) (HA.out.2.below (by repeat (first | exact Below.refl _ _ | refine Below.alloc ?_ (by first | omega | (simp <;> omega)) _)))).mono ?_
        rintro e w2 ⟨rfl, hb1⟩
        have hsz := hb.size
        have hb2 : Below w.heap.size w w2 := hb.trans (Below.trans (by repeat (first | exact Below.refl _ _ | refine Below.alloc ?_ (by first | omega | (simp <;> omega)) _)) (hb1.mono (by simp; omega)))
        clear hb1 c0 c1 c2 d0 d1 d2
        cases hs : q x y
        · have HB := Lib.hid (pairs_bad HN.out.1 HN.out.2.1 hs)
          go_wp2
          go_ret
          exact ⟨ret_eq (by rw [HB.out]; rfl), hb2⟩
        · have HB := Lib.hid (HN.out.2.2.next HN.out.1 HN.out.2.1 hs)
          go_wp2
          go_roundw
          case rel => exact ⟨k + 1, by omega, by go_num, HB.out, hb2⟩
          case measure => simp [intOf]; omega
      · obtain rfl : k = l.length := by omega
        have HB := Lib.hid (PairsTo.end_ HLM.out hst)
        go_wp2
        go_ret
        exact ⟨ret_eq (by rw [HB.out]; rfl), hb⟩
  · have g1 : ((l.length : Int) != (m.length : Int)) = true := by rw [bne_iff_ne]; omega
    rw [pairs_len hlm]
    go_enter Try.func71, Try.ntmps71
    go_wp2
    go_ret
    exact ⟨rfl, Below.refl _ _⟩

theorem sameTokens_i (l m : List Tok) (v v' : Value) (w : World) (hv : D.At w anyB (rows Tok.ds 3 l) v) (hv' : D.At w anyB (rows Tok.ds 3 m) v') :
    Calls Try.prog 29 #[v, v'] w fun e w' => e = .returned (.bool (pairs tkEq l m)) ∧ Below w.heap.size w w' := by
  obtain ⟨A, cap, rfl, -, -⟩ := rows_form Tok.len hv
  obtain ⟨A', cap', rfl, -, -⟩ := rows_form Tok.len hv'
  have HV := Lib.hid (And.intro hv hv')
  clear hv hv'
  go_enter Try.func29, Try.ntmps29
  go_wp2_with fail
  refine (equalFunc_Token tkEq l m (fun x _ => sameTokens_clo x) _ _ _ HV.out.1 HV.out.2).mono ?_
  rintro e w1 ⟨rfl, hb1⟩
  go_wp2
  go_ret
  exact ⟨rfl, hb1⟩
set_option maxRecDepth 20000 in
theorem TokenS_arg {H : Type} {enc : TypeId × Value → H} {w : World} {base b0 : Nat} {v : Value} {d : DataW H} {p : List MemPlace} (hv : Value.okWide Try.prog w .any b0 40 v) (h : DataW.Trod enc Try.prog w base (fun _ => true) true 40 v d p) :
    ∃ l : List Tok, D.At w anyB (rows Tok.ds 3 l) v := by
  obtain ⟨a, len, cap, rfl⟩ := okWide_slice Try.underlying40 hv
  obtain ⟨n, hn⟩ := h
  obtain ⟨v', l, e, hl⟩ := slice_of_trod (f := Tok.ds) (size := 3) Try.underlying40 cells_lToken (by omega) Tok.len hn (fun k' cs' y _ hy => Token_of_trod k' cs' y hy)
  simp [Value.cells] at e
  subst e
  exact ⟨l, hl⟩

set_option maxHeartbeats 1000000 in
set_option maxRecDepth 20000 in
theorem law_FnExactSameTokens {H : Type} {enc : TypeId × Value → H} {b0 b1 : Nat} {w : World} (v : Value) (d : DataW H) (p : List MemPlace) (hv : Value.okWide Try.prog w .any b0 40 v)
    (h : DataW.Trod enc Try.prog w 0 (fun _ => true) true 40 v d p) (v' : Value) (d' : DataW H) (p' : List MemPlace) (hv' : Value.okWide Try.prog w .any b1 40 v')
    (h' : DataW.Trod enc Try.prog w 0 (fun _ => true) true 40 v' d' p') :
    Calls Try.prog 7 #[v, v'] w fun e w' => e = .returned (.bool true) ∧ Below w.heap.size w w' := by
  obtain ⟨l, hx⟩ := TokenS_arg hv h
  obtain ⟨m, hx'⟩ := TokenS_arg hv' h'
  clear hv h hv' h'
  obtain ⟨A, cap, rfl, -, -⟩ := rows_form Tok.len hx
  obtain ⟨A', cap', rfl, -, -⟩ := rows_form Tok.len hx'
  have HX := Lib.hid hx
  have HX' := Lib.hid hx'
  clear hx hx'
  go_enter Try.func7, Try.ntmps7
  go_wp2_with fail
  refine (szTokenS_w l (fun x _ => szToken_w x) _ _ _ HX.out (by omega) (by omega)).mono ?_
  rintro e w1 ⟨rfl, B1⟩
  by_cases hle : ((rows Tok.ds 3 l).total : Int) ≤ 1048576
  · rw [left_yes hle]
    have hg : ¬ (1048576 - ((rows Tok.ds 3 l).total : Int) < 0) := by omega
    go_wp2_with fail
    refine (szTokenS_w m (fun x _ => szToken_w x) _ _ _ (HX'.out.below B1) (by omega) (by omega)).mono ?_
    rintro e w2 ⟨rfl, hb2⟩
    have B2 := B1.trans (hb2.mono B1.size)
    clear B1 hb2
    by_cases hle' : ((rows Tok.ds 3 m).total : Int) ≤ 1048576 - (rows Tok.ds 3 l).total
    · rw [left_yes hle']
      have hg' : ¬ (1048576 - ((rows Tok.ds 3 l).total : Int) - (rows Tok.ds 3 m).total < 0) := by omega
      go_wp2_with fail
      refine (toTokenS_w l (fun x _ => toToken_w x) _ _ (HX.out.below B2) (by omega)).mono ?_
      rintro e w3 ⟨r3, rfl, q3, hb3⟩
      obtain ⟨A3, c3, rfl, -, -⟩ := rows_form Tok.len q3
      have B3 := B2.trans (hb3.mono B2.size)
      have Q3 := Lib.hid q3
      clear q3 B2 hb3
      go_wp2_with fail
      refine (toTokenS_w m (fun x _ => toToken_w x) _ _ (HX'.out.below B3) (by omega)).mono ?_
      rintro e w4 ⟨r4, rfl, q4, hb4⟩
      obtain ⟨A4, c4, rfl, -, -⟩ := rows_form Tok.len q4
      have B4 := B3.trans (hb4.mono B3.size)
      have Q4 := Lib.hid (And.intro ((Q3.out.weaken (S' := anyB) (fun _ _ => trivial)).below hb4) (q4.weaken (S' := anyB) (fun _ _ => trivial)))
      clear q4 B3 hb4 Q3
      go_wp2_with fail
      refine (sameTokens_s l m _ _ _ Q4.out.1 Q4.out.2).mono ?_
      rintro e w5 ⟨rfl, hb5⟩
      have B5 := B4.trans (hb5.mono B4.size)
      clear B4 hb5 Q4
      go_wp2_with fail
      refine (toTokenS_w l (fun x _ => toToken_w x) _ _ (HX.out.below B5) (by omega)).mono ?_
      rintro e w6 ⟨r6, rfl, q6, hb6⟩
      obtain ⟨A6, c6, rfl, -, -⟩ := rows_form Tok.len q6
      have B6 := B5.trans (hb6.mono B5.size)
      have Q6 := Lib.hid (q6.weaken (S' := anyB) (fun _ _ => trivial))
      clear q6 B5 hb6
      go_wp2_with fail
      refine (toTokenS_w m (fun x _ => toToken_w x) _ _ (HX'.out.below B6) (by omega)).mono ?_
      rintro e w7 ⟨r7, rfl, q7, hb7⟩
      obtain ⟨A7, c7, rfl, -, -⟩ := rows_form Tok.len q7
      have B7 := B6.trans (hb7.mono B6.size)
      have Q7 := Lib.hid (And.intro (Q6.out.below hb7) (q7.weaken (S' := anyB) (fun _ _ => trivial)))
      clear q7 B6 hb7 Q6
      go_wp2_with fail
      refine (sameTokens_i l m _ _ _ Q7.out.1 Q7.out.2).mono ?_
      rintro e w8 ⟨rfl, hb8⟩
      have B8 := B7.trans (hb8.mono B7.size)
      have Q8 := Lib.hid (And.intro (Q7.out.1.below hb8) (Q7.out.2.below hb8))
      clear B7 hb8 Q7
      have hne : (pairs tkEq l m != pairs tkEq l m) = false := by simp
      go_wp2_with fail
      refine (toTokenS_w l (fun x _ => toToken_w x) _ _ (HX.out.below B8) (by omega)).mono ?_
      rintro e w9 ⟨r9, rfl, q9, hb9⟩
      obtain ⟨A9, c9, rfl, -, -⟩ := rows_form Tok.len q9
      have B9 := B8.trans (hb9.mono B8.size)
      have Q9 := Lib.hid (And.intro (Q8.out.1.below hb9) (And.intro (Q8.out.2.below hb9) (q9.weaken (S' := anyB) (fun _ _ => trivial))))
      clear q9 B8 hb9 Q8
      go_wp2_with fail
      refine (eqTokenS_w l l (fun x _ => eqToken_w x) _ _ _ Q9.out.1 Q9.out.2.2).mono ?_
      rintro e wa ⟨rfl, hba⟩
      have Ba := B9.trans (hba.mono B9.size)
      have Qa := Lib.hid (Q9.out.2.1.below hba)
      clear B9 hba Q9
      rw [pairs_refl (q := Tok.same) (l := l) (fun x _ => Tok.same_refl x)]
      go_wp2_with fail
      refine (toTokenS_w m (fun x _ => toToken_w x) _ _ (HX'.out.below Ba) (by omega)).mono ?_
      rintro e wb ⟨rb, rfl, qb, hbb⟩
      obtain ⟨Ab, cb, rfl, -, -⟩ := rows_form Tok.len qb
      have Bb := Ba.trans (hbb.mono Ba.size)
      have Qb := Lib.hid (And.intro (Qa.out.below hbb) (qb.weaken (S' := anyB) (fun _ _ => trivial)))
      clear qb Ba hbb Qa
      go_wp2_with fail
      refine (eqTokenS_w m m (fun x _ => eqToken_w x) _ _ _ Qb.out.1 Qb.out.2).mono ?_
      rintro e wc ⟨rfl, hbc⟩
      have Bc := Bb.trans (hbc.mono Bb.size)
      clear Bb hbc Qb
      rw [pairs_refl (q := Tok.same) (l := m) (fun x _ => Tok.same_refl x)]
      go_wp2
      go_ret
      exact ⟨rfl, Bc⟩
    · rw [left_no hle']
      go_wp2
      go_ret
      exact ⟨rfl, B2⟩
  · rw [left_no hle]
    go_wp2
    go_ret
    exact ⟨rfl, B1⟩
end Go.Proofs.Ytokppmhihghapaa
