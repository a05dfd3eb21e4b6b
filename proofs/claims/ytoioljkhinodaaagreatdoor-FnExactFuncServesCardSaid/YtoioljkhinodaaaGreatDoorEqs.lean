/- Lists of texts, the same or not: by the reference and by the library. -/
import Derived.Test.YtoioljkhinodaaaGreatDoorGStrs
namespace Go.Proofs.YtoioljkhinodaaaGreatDoor
open Go.RowKit

set_option maxHeartbeats 1000000 in
theorem l03Texts_s (l m : List ByteArray) (v v' : Value) (w : World) (hv : D.At w anyB (strs l) v) (hv' : D.At w anyB (strs m) v') :
    Calls Tryz.prog 122 #[v, v'] w fun e w' => e = .returned (.bool (pairs sameS l m)) ∧ Below w.heap.size w w' := by
  obtain ⟨A, cap, rfl, hn, hc⟩ := rows_form strD_length hv
  obtain ⟨A', cap', rfl, hn', hc'⟩ := rows_form strD_length hv'
  unfold maxLen at hc hc'
  have HV := Lib.hid hv
  have HV' := Lib.hid hv'
  clear hv hv'
  by_cases hlm : l.length = m.length
  · have g1 : ((l.length : Int) != (m.length : Int)) = false := by simp [hlm]
    have HLM := Lib.hid hlm
    have hle : m.length ≤ l.length := by omega
    clear hlm
    go_enter Tryz.func122, Tryz.ntmps122
    go_wp2
    go_loopw [5] (fun i wr => ∃ k : Nat, k ≤ l.length ∧ i = .int .i64 k ∧ PairsTo sameS l m k ∧ Below w.heap.size w wr) (fun i _ => l.length - (intOf i).toNat)
    case atStart => exact ⟨0, Nat.zero_le _, rfl, PairsTo.zero _ _ _, Below.refl _ _⟩
    case round =>
      obtain ⟨k, hk, rfl, hst, hb⟩ := hrel
      by_cases hlt : k < l.length
      · obtain ⟨x, hx⟩ : ∃ x, l[k]? = some x := ⟨l[k], List.getElem?_eq_getElem hlt⟩
        obtain ⟨y, hy⟩ : ∃ y, m[k]? = some y := ⟨m[k]'(by have := HLM.out; omega), List.getElem?_eq_getElem (by have := HLM.out; omega)⟩
        have hltm : (k : Int) < (m.length : Int) := by have := HLM.out; omega
        have hk0 : (0 : Int) ≤ (k : Int) := by omega
        have hk1 : (k : Int) < (l.length : Int) := by omega
        obtain ⟨b, off, u0, rfl, -, hbl, hat, c0⟩ := rows_at1 strD_length HV.out hx
        obtain ⟨b', off', v0, rfl, -, hbl', hat', d0⟩ := rows_at1 strD_length HV'.out hy
        obtain ⟨rfl, hxs⟩ := str_open hat
        obtain ⟨rfl, hys⟩ := str_open hat'
        replace c0 := cell_regrown ((hb.cell (p := ⟨b, off + k, none⟩) hbl).trans c0)
        replace d0 := cell_regrown ((hb.cell (p := ⟨b', off' + k, none⟩) hbl').trans d0)
        have HN := Lib.hid (And.intro hx (And.intro hy hst))
        clear hx hy hst
        cases hs : (x.toList == y.toList)
        all_goals
          have hne : (x.toList != y.toList) = !(x.toList == y.toList) := rfl
          rw [hs] at hne
          have HS := Lib.hid hs
          go_wp2_with fail
          refine wp_region_quiet_below (by kernel_rfl) (by kernel_rfl) ?_
          repeat (quiet_step (fail))
          refine wpQuiet_nil ?_
          intro w2 hw2
          have hb2 := hb.trans ((below_of_regrown hw2).mono hb.size)
          clear hw2 c0 d0
        · have HB := Lib.hid (pairs_bad (q := sameS) HN.out.1 HN.out.2.1 HS.out)
          go_wp2
          go_ret
          exact ⟨ret_eq (by rw [HB.out]; rfl), hb2⟩
        · have HB := Lib.hid (HN.out.2.2.next HN.out.1 HN.out.2.1 HS.out)
          go_wp2
          go_roundw
          case rel => exact ⟨k + 1, by omega, by go_num, HB.out, hb2⟩
          case measure => simp [intOf]; omega
      · obtain rfl : k = l.length := by omega
        have HB := Lib.hid (PairsTo.end_ HLM.out hst)
        go_wp2
        go_ret
        exact ⟨ret_eq (by rw [HB.out]; rfl), hb⟩
  · have g1 : ((l.length : Int) != (m.length : Int)) = true := by rw [bne_iff_ne]; omega
    rw [pairs_len hlm]
    go_enter Tryz.func122, Tryz.ntmps122
    go_wp2
    go_ret
    exact ⟨rfl, Below.refl _ _⟩
set_option maxHeartbeats 1000000 in
theorem slicesEqual_s (l m : List ByteArray) (v v' : Value) (w : World) (hv : D.At w anyB (strs l) v) (hv' : D.At w anyB (strs m) v') :
    Calls Tryz.prog 119 #[v, v'] w fun e w' => e = .returned (.bool (pairs sameS l m)) ∧ Below w.heap.size w w' := by
  obtain ⟨A, cap, rfl, hn, hc⟩ := rows_form strD_length hv
  obtain ⟨A', cap', rfl, hn', hc'⟩ := rows_form strD_length hv'
  unfold maxLen at hc hc'
  have HV := Lib.hid hv
  have HV' := Lib.hid hv'
  clear hv hv'
  by_cases hlm : l.length = m.length
  · have g1 : ((l.length : Int) != (m.length : Int)) = false := by simp [hlm]
    have HLM := Lib.hid hlm
    have hle : m.length ≤ l.length := by omega
    clear hlm
    go_enter Tryz.func119, Tryz.ntmps119
    go_wp2
    go_loopw [5, 13] (fun _ i wr => ∃ k : Nat, k ≤ l.length ∧ i = .int .i64 k ∧ PairsTo sameS l m k ∧ Below w.heap.size w wr) (fun _ i _ => l.length - (intOf i).toNat)
    case atStart => exact ⟨0, Nat.zero_le _, rfl, PairsTo.zero _ _ _, Below.refl _ _⟩
    case round =>
      obtain ⟨k, hk, rfl, hst, hb⟩ := hrel
      by_cases hlt : k < l.length
      · obtain ⟨x, hx⟩ : ∃ x, l[k]? = some x := ⟨l[k], List.getElem?_eq_getElem hlt⟩
        obtain ⟨y, hy⟩ : ∃ y, m[k]? = some y := ⟨m[k]'(by have := HLM.out; omega), List.getElem?_eq_getElem (by have := HLM.out; omega)⟩
        have hltm : (k : Int) < (m.length : Int) := by have := HLM.out; omega
        have hk0 : (0 : Int) ≤ (k : Int) := by omega
        have hk1 : (k : Int) < (l.length : Int) := by omega
        obtain ⟨b, off, u0, rfl, -, hbl, hat, c0⟩ := rows_at1 strD_length HV.out hx
        obtain ⟨b', off', v0, rfl, -, hbl', hat', d0⟩ := rows_at1 strD_length HV'.out hy
        obtain ⟨rfl, hxs⟩ := str_open hat
        obtain ⟨rfl, hys⟩ := str_open hat'
        replace c0 := cell_regrown ((hb.cell (p := ⟨b, off + k, none⟩) hbl).trans c0)
        replace d0 := cell_regrown ((hb.cell (p := ⟨b', off' + k, none⟩) hbl').trans d0)
        have HN := Lib.hid (And.intro hx (And.intro hy hst))
        clear hx hy hst
        cases hs : (x.toList == y.toList)
        all_goals
          have hne : (x.toList != y.toList) = !(x.toList == y.toList) := rfl
          rw [hs] at hne
          have HS := Lib.hid hs
          go_wp2_with fail
          refine wp_region_quiet_below (by kernel_rfl) (by kernel_rfl) ?_
          repeat (quiet_step (fail))
          refine wpQuiet_nil ?_
          intro w2 hw2
          have hb2 := hb.trans ((below_of_regrown hw2).mono hb.size)
          clear hw2 c0 d0
        · have HB := Lib.hid (pairs_bad (q := sameS) HN.out.1 HN.out.2.1 HS.out)
          go_wp2
          go_ret
          exact ⟨ret_eq (by rw [HB.out]; rfl), hb2⟩
        · have HB := Lib.hid (HN.out.2.2.next HN.out.1 HN.out.2.1 HS.out)
          go_wp2
          go_roundw
          case rel => exact ⟨k + 1, by omega, by go_num, HB.out, hb2⟩
          case measure => simp [intOf]; omega
      · obtain rfl : k = l.length := by omega
        have HB := Lib.hid (PairsTo.end_ HLM.out hst)
        go_wp2
        go_ret
        exact ⟨ret_eq (by rw [HB.out]; rfl), hb⟩
  · have g1 : ((l.length : Int) != (m.length : Int)) = true := by rw [bne_iff_ne]; omega
    rw [pairs_len hlm]
    go_enter Tryz.func119, Tryz.ntmps119
    go_wp2
    go_ret
    exact ⟨rfl, Below.refl _ _⟩
end Go.Proofs.YtoioljkhinodaaaGreatDoor
