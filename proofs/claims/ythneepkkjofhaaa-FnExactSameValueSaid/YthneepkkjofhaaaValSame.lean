/- Values: comparison, by the law's function on structs and the reference's. -/
import Derived.Test.YthneepkkjofhaaaValEq
namespace Go.Proofs.Ythneepkkjofhaaa
open Go.RowKit

/-- The tests that decide before the kids. -/
theorem same_split (k n : Int) (t : ByteArray) (ks : List Val) (k' n' : Int) (t' : ByteArray) (ks' : List Val) :
    ((k == k') = false ∧ (k != k') = true ∧ Val.same (.mk k n t ks) (.mk k' n' t' ks') = false) ∨
    ((k == k') = true ∧ (k != k') = false ∧ (n == n') = false ∧ (n != n') = true ∧ Val.same (.mk k n t ks) (.mk k' n' t' ks') = false) ∨
    ((k == k') = true ∧ (k != k') = false ∧ (n == n') = true ∧ (n != n') = false ∧ (t.toList == t'.toList) = false ∧ Val.same (.mk k n t ks) (.mk k' n' t' ks') = false) ∨
    ((k == k') = true ∧ (k != k') = false ∧ (n == n') = true ∧ (n != n') = false ∧ (t.toList == t'.toList) = true ∧ Val.same (.mk k n t ks) (.mk k' n' t' ks') = Val.sames ks ks') := by
  cases h1 : (k == k') <;> cases h2 : (n == n') <;> cases h3 : (t.toList == t'.toList) <;> simp [Val.same, bne, h1, h2, h3]

set_option maxHeartbeats 1000000 in
theorem eqValue_w (x : Val) : IsSame 23 x := by
  refine Val.ind (fun k n t kids ih => ?_) x
  intro y cs cs' w hcs hcs'
  obtain ⟨k', n', t', kids'⟩ := y
  obtain ⟨v, rfl, -, -, -, hv⟩ := Val.open_ hcs
  obtain ⟨v', rfl, -, -, -, hv'⟩ := Val.open_ hcs'
  have IH := Lib.hid ih
  have HV := Lib.hid hv
  have HV' := Lib.hid hv'
  clear ih hv hv' hcs hcs'
  obtain ⟨A, cap, rfl, -, -⟩ := Val.sl_form HV.out
  obtain ⟨A', cap', rfl, -, -⟩ := Val.sl_form HV'.out
  rcases same_split k n t kids k' n' t' kids' with ⟨h1, h2, hr⟩ | ⟨h1, h2, h3, h4, hr⟩ | ⟨h1, h2, h3, h4, h5, hr⟩ | ⟨h1, h2, h3, h4, h5, hr⟩
  · rw [hr]
    clear hr
    go_enter Try.func23, Try.ntmps23
    go_wp2
    go_ret
    exact ⟨rfl, by repeat (first | exact Below.refl _ _ | refine Below.alloc ?_ (by simp <;> omega) _)⟩
  · rw [hr]
    clear hr
    go_enter Try.func23, Try.ntmps23
    go_wp2
    go_ret
    exact ⟨rfl, by repeat (first | exact Below.refl _ _ | refine Below.alloc ?_ (by simp <;> omega) _)⟩
  · rw [hr]
    clear hr
    go_enter Try.func23, Try.ntmps23
    go_wp2
    go_ret
    exact ⟨rfl, by repeat (first | exact Below.refl _ _ | refine Below.alloc ?_ (by simp <;> omega) _)⟩
  · rw [hr]
    clear hr
    go_enter Try.func23, Try.ntmps23
    go_wp2_with fail
    refine (eqValueS_w kids kids' IH.out _ _ _ (HV.out.below (by repeat (first | exact Below.refl _ _ | refine Below.alloc ?_ (by simp <;> omega) _))) (HV'.out.below (by repeat (first | exact Below.refl _ _ | refine Below.alloc ?_ (by simp <;> omega) _)))).mono ?_
    rintro e w1 ⟨rfl, hb1⟩
    have hB : Below w.heap.size w w1 := Below.trans (by repeat (first | exact Below.refl _ _ | refine Below.alloc ?_ (by simp <;> omega) _)) (hb1.mono (by simp <;> omega))
    clear hb1
    cases hs : Val.sames kids kids'
    all_goals
      have HS := Lib.hid hs
      go_wp2
      go_ret
      exact ⟨ret_eq (by rw [HS.out]; rfl), hB⟩

set_option maxHeartbeats 1000000 in
set_option maxRecDepth 20000 in
theorem sameValue_s (x : Val) : IsSame 20 x := by
  refine Val.ind (fun k n t kids ih => ?_) x
  intro y cs cs' w hcs hcs'
  obtain ⟨k', n', t', kids'⟩ := y
  obtain ⟨v, rfl, -, -, -, hv⟩ := Val.open_ hcs
  obtain ⟨v', rfl, -, -, -, hv'⟩ := Val.open_ hcs'
  have HL := Lib.hid ih
  have HV := Lib.hid hv
  have HV' := Lib.hid hv'
  clear ih hv hv' hcs hcs'
  obtain ⟨A, cap, rfl, hn, hc⟩ := Val.sl_form HV.out
  obtain ⟨A', cap', rfl, hn', hc'⟩ := Val.sl_form HV'.out
  unfold maxLen at hc hc'
  rcases same_split k n t kids k' n' t' kids' with ⟨h1, h2, hr⟩ | ⟨h1, h2, h3, h4, hr⟩ | ⟨h1, h2, h3, h4, h5, hr⟩ | ⟨h1, h2, h3, h4, h5, hr⟩
  · rw [hr]
    clear hr
    go_enter Try.func20, Try.ntmps20
    go_wp2
    go_ret
    exact ⟨rfl, by repeat (first | exact Below.refl _ _ | refine Below.alloc ?_ (by simp <;> omega) _)⟩
  · rw [hr]
    clear hr
    go_enter Try.func20, Try.ntmps20
    go_wp2
    go_ret
    exact ⟨rfl, by repeat (first | exact Below.refl _ _ | refine Below.alloc ?_ (by simp <;> omega) _)⟩
  · rw [hr]
    clear hr
    go_enter Try.func20, Try.ntmps20
    go_wp2
    go_ret
    exact ⟨rfl, by repeat (first | exact Below.refl _ _ | refine Below.alloc ?_ (by simp <;> omega) _)⟩
  · rw [hr]
    clear hr
    by_cases hlm : kids.length = kids'.length
    · have g1 : ((kids.length : Int) != (kids'.length : Int)) = false := by simp [hlm]
      have HLM := Lib.hid hlm
      have hle : kids'.length ≤ kids.length := by omega
      clear hlm
      go_enter Try.func20, Try.ntmps20
      go_wp2
      go_loopw [5] (fun i wr => ∃ j : Nat, j ≤ kids.length ∧ i = .int .i64 j ∧ SameTo kids kids' j ∧ Below w.heap.size w wr ∧ w.heap.size + 1 < wr.heap.size ∧
          wr.cell? ⟨w.heap.size, 3, none⟩ = some (.slice A kids.length cap) ∧ wr.cell? ⟨w.heap.size + 1, 3, none⟩ = some (.slice A' kids'.length cap')) (fun i _ => kids.length - (intOf i).toNat)
      case atStart => exact ⟨0, Nat.zero_le _, rfl, by simp [SameTo, Val.sames], by repeat (first | exact Below.refl _ _ | refine Below.alloc ?_ (by simp <;> omega) _), by simp, by go_simp, by go_simp⟩
      case round =>
        obtain ⟨j, hj, rfl, hst, hb, hz, e1, e2⟩ := hrel
        by_cases hlt : j < kids.length
        · obtain ⟨x, hx⟩ : ∃ x, kids[j]? = some x := ⟨kids[j], List.getElem?_eq_getElem hlt⟩
          obtain ⟨y, hy⟩ : ∃ y, kids'[j]? = some y := ⟨kids'[j]'(by have := HLM.out; omega), List.getElem?_eq_getElem (by have := HLM.out; omega)⟩
          have hltm : (j : Int) < (kids'.length : Int) := by have := HLM.out; omega
          have hk0 : (0 : Int) ≤ (j : Int) := by omega
          have hk1 : (j : Int) < (kids.length : Int) := by omega
          obtain ⟨b, off, u0, u1, u2, u3, rfl, -, hbl, hat, c0, c1, c2, c3⟩ := Val.sl_at HV.out hx
          obtain ⟨b', off', v0, v1, v2, v3, rfl, -, hbl', hat', d0, d1, d2, d3⟩ := Val.sl_at HV'.out hy
          replace c0 := cell_regrown ((hb.cell (p := ⟨b, off + j * 4, none⟩) hbl).trans c0)
          replace c1 := cell_regrown ((hb.cell (p := ⟨b, off + j * 4 + 1, none⟩) hbl).trans c1)
          replace c2 := cell_regrown ((hb.cell (p := ⟨b, off + j * 4 + 2, none⟩) hbl).trans c2)
          replace c3 := cell_regrown ((hb.cell (p := ⟨b, off + j * 4 + 3, none⟩) hbl).trans c3)
          replace d0 := cell_regrown ((hb.cell (p := ⟨b', off' + j * 4, none⟩) hbl').trans d0)
          replace d1 := cell_regrown ((hb.cell (p := ⟨b', off' + j * 4 + 1, none⟩) hbl').trans d1)
          replace d2 := cell_regrown ((hb.cell (p := ⟨b', off' + j * 4 + 2, none⟩) hbl').trans d2)
          replace d3 := cell_regrown ((hb.cell (p := ⟨b', off' + j * 4 + 3, none⟩) hbl').trans d3)
          have f1 := cell_regrown e1
          have f2 := cell_regrown e2
          have hxm : x ∈ kids := List.mem_of_getElem? hx
          have HN := Lib.hid (And.intro hx (And.intro hy hst))
          clear hx hy hst
          go_wp2_with fail
          refine wp_region_quiet_below (by kernel_rfl) (by kernel_rfl) ?_
          repeat (quiet_step (exact Calls.regrown_of (HL.out x hxm y _ _ _ ((hat.below hb).below (below_regrown _ _ _)) ((hat'.below hb).below (below_regrown _ _ _)))))
          refine wpQuiet_nil ?_
          intro w2 hw2
          have hw3 := below_of_regrown hw2
          have hb2 := hb.trans (hw3.mono hb.size)
          have hz2 : w.heap.size + 1 < w2.heap.size := Nat.lt_of_lt_of_le hz hw3.size
          have p1 := (hw3.cell (p := ⟨w.heap.size, 3, none⟩) (by show w.heap.size < _; omega)).trans e1
          have p2 := (hw3.cell (p := ⟨w.heap.size + 1, 3, none⟩) hz).trans e2
          clear hw2 hw3 c0 c1 c2 c3 d0 d1 d2 d3 f1 f2 e1 e2
          cases hs : Val.same x y
          · have HB := Lib.hid (sames_bad HN.out.1 HN.out.2.1 hs)
            go_wp2
            go_ret
            exact ⟨ret_eq (by rw [HB.out]; rfl), hb2⟩
          · have HB := Lib.hid (HN.out.2.2.next HLM.out HN.out.1 HN.out.2.1 hs)
            go_wp2
            go_roundw
            case rel => exact ⟨j + 1, by omega, by go_num, HB.out, hb2, hz2, p1, p2⟩
            case measure => simp [intOf]; omega
        · obtain rfl : j = kids.length := by omega
          have HB := Lib.hid (SameTo.end_ HLM.out hst)
          go_wp2
          go_ret
          exact ⟨ret_eq (by rw [HB.out]; rfl), hb⟩
    · have g1 : ((kids.length : Int) != (kids'.length : Int)) = true := by rw [bne_iff_ne]; omega
      rw [Val.sames_len hlm]
      go_enter Try.func20, Try.ntmps20
      go_wp2
      go_ret
      exact ⟨rfl, by repeat (first | exact Below.refl _ _ | refine Below.alloc ?_ (by simp <;> omega) _)⟩
end Go.Proofs.Ythneepkkjofhaaa
