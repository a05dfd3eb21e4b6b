/- Handle: how much the law counts, its deep copy, its comparison. -/
import Derived.Test.YtofihcahimdbhaaGreatDoorGStrs
import Derived.Test.YtofihcahimdbhaaGreatDoorVaM
namespace Go.Proofs.YtofihcahimdbhaaGreatDoor
open Go.RowKit

set_option maxHeartbeats 1000000 in
theorem eqHandle_w (x : Hn) : IsQ 70 Hn.ds Hn.same x := by
  intro y cs cs' w hcs hcs'
  obtain ⟨rfl, zA1, iA2⟩ := Hn.open_ hcs
  obtain ⟨rfl, zB1, iB2⟩ := Hn.open_ hcs'
  have hE : Hn.same x y = ((x.own == y.own) && ((x.res.toList == y.res.toList) && ((x.num == y.num)))) := Hn.same_eq _ _
  have HE := Lib.hid hE
  clear hE zA1 zB1 iA2 iB2
  show Calls Tryz.prog 70 _ _ (fun e w' => e = .returned (.bool (Hn.same x y)) ∧ Below w.heap.size w w')
  cases h0 : (x.own == y.own)
  · have g0 : (x.own != y.own) = true := by simp [bne, h0]
    have E0 := Lib.hid h0
    go_enter Tryz.func70, Tryz.ntmps70
    go_wp2
    go_ret
    exact ⟨ret_eq (by rw [HE.out, E0.out]; try rfl), (by repeat (first | exact Below.refl _ _ | refine Below.alloc ?_ (by first | omega | (simp <;> omega)) _))⟩
  · have g0 : (x.own != y.own) = false := by simp [bne, h0]
    have E0 := Lib.hid h0
    cases h1 : (x.res.toList == y.res.toList)
    · have g1 : (x.res.toList != y.res.toList) = true := by simp [bne, h1]
      have E1 := Lib.hid h1
      go_enter Tryz.func70, Tryz.ntmps70
      go_wp2
      go_ret
      exact ⟨ret_eq (by rw [HE.out, E0.out, E1.out]; try rfl), (by repeat (first | exact Below.refl _ _ | refine Below.alloc ?_ (by first | omega | (simp <;> omega)) _))⟩
    · have g1 : (x.res.toList != y.res.toList) = false := by simp [bne, h1]
      have E1 := Lib.hid h1
      cases h2 : (x.num == y.num)
      · have g2 : (x.num != y.num) = true := by simp [bne, h2]
        have E2 := Lib.hid h2
        go_enter Tryz.func70, Tryz.ntmps70
        go_wp2
        go_ret
        exact ⟨ret_eq (by rw [HE.out, E0.out, E1.out, E2.out]; try rfl), (by repeat (first | exact Below.refl _ _ | refine Below.alloc ?_ (by first | omega | (simp <;> omega)) _))⟩
      · have g2 : (x.num != y.num) = false := by simp [bne, h2]
        have E2 := Lib.hid h2
        go_enter Tryz.func70, Tryz.ntmps70
        go_wp2
        go_ret
        exact ⟨ret_eq (by rw [HE.out, E0.out, E1.out, E2.out]; try rfl), (by repeat (first | exact Below.refl _ _ | refine Below.alloc ?_ (by first | omega | (simp <;> omega)) _))⟩

set_option maxHeartbeats 1000000 in
theorem eqHandleS_w (l m : List Hn) (hl : ∀ x ∈ l, IsQ 70 Hn.ds Hn.same x) (v v' : Value) (w : World) (hv : D.At w anyB (rows Hn.ds 3 l) v) (hv' : D.At w anyB (rows Hn.ds 3 m) v') :
    Calls Tryz.prog 27 #[v, v'] w fun e w' => e = .returned (.bool (pairs Hn.same l m)) ∧ Below w.heap.size w w' := by
  obtain ⟨A, cap, rfl, hn, hc⟩ := rows_form Hn.len hv
  obtain ⟨A', cap', rfl, hn', hc'⟩ := rows_form Hn.len hv'
  unfold maxLen at hc hc'
  have HV := Lib.hid hv
  have HV' := Lib.hid hv'
  have HL := Lib.hid hl
  clear hv hv' hl
  by_cases hlm : l.length = m.length
  · have g1 : ((l.length : Int) != (m.length : Int)) = false := by simp [hlm]
    have HLM := Lib.hid hlm
    have hle : m.length ≤ l.length := by omega
    clear hlm
    go_enter Tryz.func27, Tryz.ntmps27
    go_wp2
    go_loopw [5] (fun i wr => ∃ k : Nat, k ≤ l.length ∧ i = .int .i64 k ∧ PairsTo Hn.same l m k ∧ Below w.heap.size w wr) (fun i _ => l.length - (intOf i).toNat)
    case atStart => exact ⟨0, Nat.zero_le _, rfl, PairsTo.zero _ _ _, Below.refl _ _⟩
    case round =>
      obtain ⟨k, hk, rfl, hst, hb⟩ := hrel
      by_cases hlt : k < l.length
      · obtain ⟨x, hx⟩ : ∃ x, l[k]? = some x := ⟨l[k], List.getElem?_eq_getElem hlt⟩
        obtain ⟨y, hy⟩ : ∃ y, m[k]? = some y := ⟨m[k]'(by have := HLM.out; omega), List.getElem?_eq_getElem (by have := HLM.out; omega)⟩
        have hltm : (k : Int) < (m.length : Int) := by have := HLM.out; omega
        have hk0 : (0 : Int) ≤ (k : Int) := by omega
        have hk1 : (k : Int) < (l.length : Int) := by omega
        obtain ⟨b, off, u0, u1, u2, rfl, -, hbl, hat, c0, c1, c2⟩ := rows_at3 Hn.len HV.out hx
        obtain ⟨b', off', v0, v1, v2, rfl, -, hbl', hat', d0, d1, d2⟩ := rows_at3 Hn.len HV'.out hy
        replace c0 := cell_regrown ((hb.cell (p := ⟨b, off + k * 3, none⟩) hbl).trans c0)
        replace c1 := cell_regrown ((hb.cell (p := ⟨b, off + k * 3 + 1, none⟩) hbl).trans c1)
        replace c2 := cell_regrown ((hb.cell (p := ⟨b, off + k * 3 + 2, none⟩) hbl).trans c2)
        replace d0 := cell_regrown ((hb.cell (p := ⟨b', off' + k * 3, none⟩) hbl').trans d0)
        replace d1 := cell_regrown ((hb.cell (p := ⟨b', off' + k * 3 + 1, none⟩) hbl').trans d1)
        replace d2 := cell_regrown ((hb.cell (p := ⟨b', off' + k * 3 + 2, none⟩) hbl').trans d2)
        have hxm : x ∈ l := List.mem_of_getElem? hx
        have HN := Lib.hid (And.intro hx (And.intro hy hst))
        clear hx hy hst
        go_wp2_with fail
        refine wp_region_quiet_below (by kernel_rfl) (by kernel_rfl) ?_
        repeat (quiet_step (exact Calls.regrown_of (HL.out x hxm y _ _ _ ((hat.below hb).below (below_regrown _ _ _)) ((hat'.below hb).below (below_regrown _ _ _)))))
        refine wpQuiet_nil ?_
        intro w2 hw2
        have hb2 := hb.trans ((below_of_regrown hw2).mono hb.size)
        clear hw2 c0 c1 c2 d0 d1 d2
        cases hs : Hn.same x y
        · have HB := Lib.hid (pairs_bad HN.out.1 HN.out.2.1 hs)
          go_wp2
          go_ret
          exact ⟨ret_eq (by rw [HB.out]; rfl), hb2⟩
        · have HB := Lib.hid (HN.out.2.2.next HN.out.1 HN.out.2.1 hs)
          go_wp2
          go_roundw
          case rel => exact ⟨k + 1, by omega, by go_num, HB.out, hb2⟩
          case measure => simp [intOf]; omega
      · obtain rfl : k = l.length := by omega
        have HB := Lib.hid (PairsTo.end_ HLM.out hst)
        go_wp2
        go_ret
        exact ⟨ret_eq (by rw [HB.out]; rfl), hb⟩
  · have g1 : ((l.length : Int) != (m.length : Int)) = true := by rw [bne_iff_ne]; omega
    rw [pairs_len hlm]
    go_enter Tryz.func27, Tryz.ntmps27
    go_wp2
    go_ret
    exact ⟨rfl, Below.refl _ _⟩

end Go.Proofs.YtofihcahimdbhaaGreatDoor
