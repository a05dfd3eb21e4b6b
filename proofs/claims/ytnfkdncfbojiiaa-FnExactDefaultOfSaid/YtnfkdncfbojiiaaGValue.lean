/- Value: how much the law counts, its deep copy, its comparison. -/
import Derived.Test.YtnfkdncfbojiiaaGStrs
import Derived.Test.YtnfkdncfbojiiaaVaM
namespace Go.Proofs.Ytnfkdncfbojiiaa
open Go.RowKit

set_option maxHeartbeats 1000000 in
theorem eqValueS_w (l m : List Va) (hl : ∀ x ∈ l, IsQ 17 Va.ds Va.same x) (v v' : Value) (w : World) (hv : D.At w anyB (rows Va.ds 4 l) v) (hv' : D.At w anyB (rows Va.ds 4 m) v') :
    Calls Try.prog 43 #[v, v'] w fun e w' => e = .returned (.bool (pairs Va.same l m)) ∧ Below w.heap.size w w' := by
  obtain ⟨A, cap, rfl, hn, hc⟩ := rows_form Va.len hv
  obtain ⟨A', cap', rfl, hn', hc'⟩ := rows_form Va.len hv'
  unfold maxLen at hc hc'
  have HV := Lib.hid hv
  have HV' := Lib.hid hv'
  have HL := Lib.hid hl
  clear hv hv' hl
  by_cases hlm : l.length = m.length
  · have g1 : ((l.length : Int) != (m.length : Int)) = false := by simp [hlm]
    have HLM := Lib.hid hlm
    have hle : m.length ≤ l.length := by omega
    clear hlm
    go_enter Try.func43, Try.ntmps43
    go_wp2
    go_loopw [5] (fun i wr => ∃ k : Nat, k ≤ l.length ∧ i = .int .i64 k ∧ PairsTo Va.same l m k ∧ Below w.heap.size w wr) (fun i _ => l.length - (intOf i).toNat)
    case atStart => exact ⟨0, Nat.zero_le _, rfl, PairsTo.zero _ _ _, Below.refl _ _⟩
    case round =>
      obtain ⟨k, hk, rfl, hst, hb⟩ := hrel
      by_cases hlt : k < l.length
      · obtain ⟨x, hx⟩ : ∃ x, l[k]? = some x := ⟨l[k], List.getElem?_eq_getElem hlt⟩
        obtain ⟨y, hy⟩ : ∃ y, m[k]? = some y := ⟨m[k]'(by have := HLM.out; omega), List.getElem?_eq_getElem (by have := HLM.out; omega)⟩
        have hltm : (k : Int) < (m.length : Int) := by have := HLM.out; omega
        have hk0 : (0 : Int) ≤ (k : Int) := by omega
        have hk1 : (k : Int) < (l.length : Int) := by omega
        obtain ⟨b, off, u0, u1, u2, u3, rfl, -, hbl, hat, c0, c1, c2, c3⟩ := rows_at4 Va.len HV.out hx
        obtain ⟨b', off', v0, v1, v2, v3, rfl, -, hbl', hat', d0, d1, d2, d3⟩ := rows_at4 Va.len HV'.out hy
        replace c0 := cell_regrown ((hb.cell (p := ⟨b, off + k * 4, none⟩) hbl).trans c0)
        replace c1 := cell_regrown ((hb.cell (p := ⟨b, off + k * 4 + 1, none⟩) hbl).trans c1)
        replace c2 := cell_regrown ((hb.cell (p := ⟨b, off + k * 4 + 2, none⟩) hbl).trans c2)
        replace c3 := cell_regrown ((hb.cell (p := ⟨b, off + k * 4 + 3, none⟩) hbl).trans c3)
        replace d0 := cell_regrown ((hb.cell (p := ⟨b', off' + k * 4, none⟩) hbl').trans d0)
        replace d1 := cell_regrown ((hb.cell (p := ⟨b', off' + k * 4 + 1, none⟩) hbl').trans d1)
        replace d2 := cell_regrown ((hb.cell (p := ⟨b', off' + k * 4 + 2, none⟩) hbl').trans d2)
        replace d3 := cell_regrown ((hb.cell (p := ⟨b', off' + k * 4 + 3, none⟩) hbl').trans d3)
        have hxm : x ∈ l := List.mem_of_getElem? hx
        have HN := Lib.hid (And.intro hx (And.intro hy hst))
        clear hx hy hst
        go_wp2_with fail
        refine wp_region_quiet_below (by kernel_rfl) (by kernel_rfl) ?_
        repeat (quiet_step (exact Calls.regrown_of (HL.out x hxm y _ _ _ ((hat.below hb).below (below_regrown _ _ _)) ((hat'.below hb).below (below_regrown _ _ _)))))
        refine wpQuiet_nil ?_
        intro w2 hw2
        have hb2 := hb.trans ((below_of_regrown hw2).mono hb.size)
        clear hw2 c0 c1 c2 c3 d0 d1 d2 d3
        cases hs : Va.same x y
        · have HB := Lib.hid (pairs_bad HN.out.1 HN.out.2.1 hs)
          go_wp2
          go_ret
          exact ⟨ret_eq (by rw [HB.out]; rfl), hb2⟩
        · have HB := Lib.hid (HN.out.2.2.next HN.out.1 HN.out.2.1 hs)
          go_wp2
          go_roundw
          case rel => exact ⟨k + 1, by omega, by go_num, HB.out, hb2⟩
          case measure => simp [intOf]; omega
      · obtain rfl : k = l.length := by omega
        have HB := Lib.hid (PairsTo.end_ HLM.out hst)
        go_wp2
        go_ret
        exact ⟨ret_eq (by rw [HB.out]; rfl), hb⟩
  · have g1 : ((l.length : Int) != (m.length : Int)) = true := by rw [bne_iff_ne]; omega
    rw [pairs_len hlm]
    go_enter Try.func43, Try.ntmps43
    go_wp2
    go_ret
    exact ⟨rfl, Below.refl _ _⟩

set_option maxHeartbeats 1000000 in
theorem eqValue_w (x : Va) : IsQ 17 Va.ds Va.same x := by
  refine Va.ind (fun k m t kids ih => ?_) x
  intro y cs cs' w hcs hcs'
  obtain ⟨k', m', t', kids'⟩ := y
  obtain ⟨AA, Ac, rfl, iA0, iA1, zA2, sA3⟩ := Va.open_ hcs
  obtain ⟨BA, Bc, rfl, iB0, iB1, zB2, sB3⟩ := Va.open_ hcs'
  have hE : Va.same (Va.mk k m t kids) (Va.mk k' m' t' kids') = ((k == k') && ((m == m') && ((t.toList == t'.toList) && (pairs Va.same kids kids')))) := Va.same_eq _ _ _ _ _ _ _ _
  have HE := Lib.hid hE
  have IH := Lib.hid ih
  have H3 := Lib.hid (And.intro sA3 sB3)
  clear hE ih iA0 iB0 iA1 iB1 zA2 zB2 sA3 sB3
  show Calls Try.prog 17 _ _ (fun e w' => e = .returned (.bool (Va.same (Va.mk k m t kids) (Va.mk k' m' t' kids'))) ∧ Below w.heap.size w w')
  cases h0 : (k == k')
  · have g0 : (k != k') = true := by simp [bne, h0]
    have E0 := Lib.hid h0
    go_enter Try.func17, Try.ntmps17
    go_wp2
    go_ret
    exact ⟨ret_eq (by rw [HE.out, E0.out]; try rfl), (by repeat (first | exact Below.refl _ _ | refine Below.alloc ?_ (by first | omega | (simp <;> omega)) _))⟩
  · have g0 : (k != k') = false := by simp [bne, h0]
    have E0 := Lib.hid h0
    cases h1 : (m == m')
    · have g1 : (m != m') = true := by simp [bne, h1]
      have E1 := Lib.hid h1
      go_enter Try.func17, Try.ntmps17
      go_wp2
      go_ret
      exact ⟨ret_eq (by rw [HE.out, E0.out, E1.out]; try rfl), (by repeat (first | exact Below.refl _ _ | refine Below.alloc ?_ (by first | omega | (simp <;> omega)) _))⟩
    · have g1 : (m != m') = false := by simp [bne, h1]
      have E1 := Lib.hid h1
      cases h2 : (t.toList == t'.toList)
      · have g2 : (t.toList != t'.toList) = true := by simp [bne, h2]
        have E2 := Lib.hid h2
        go_enter Try.func17, Try.ntmps17
        go_wp2
        go_ret
        exact ⟨ret_eq (by rw [HE.out, E0.out, E1.out, E2.out]; try rfl), (by repeat (first | exact Below.refl _ _ | refine Below.alloc ?_ (by first | omega | (simp <;> omega)) _))⟩
      · have g2 : (t.toList != t'.toList) = false := by simp [bne, h2]
        have E2 := Lib.hid h2
        go_enter Try.func17, Try.ntmps17
        go_wp2_with fail
        refine (eqValueS_w kids kids' IH.out _ _ _ (H3.out.1.below (by repeat (first | exact Below.refl _ _ | refine Below.alloc ?_ (by first | omega | (simp <;> omega)) _))) (H3.out.2.below (by repeat (first | exact Below.refl _ _ | refine Below.alloc ?_ (by first | omega | (simp <;> omega)) _)))).mono ?_
        rintro e w1 ⟨rfl, hb1⟩
        obtain ⟨B1, bA, bB⟩ := box2 (cA := [_, _, _, _]) (cB := [_, _, _, _]) hb1
        clear hb1
        have c := bA.cell
        have d := bB.cell
        cases h3 : pairs Va.same kids kids'
        · have E3 := Lib.hid h3
          clear h3
          go_wp2
          go_ret
          exact ⟨ret_eq (by rw [HE.out, E0.out, E1.out, E2.out, E3.out]; try rfl), B1⟩
        · have E3 := Lib.hid h3
          clear h3
          go_wp2
          go_ret
          exact ⟨ret_eq (by rw [HE.out, E0.out, E1.out, E2.out, E3.out]; try rfl), B1⟩

end Go.Proofs.Ytnfkdncfbojiiaa
