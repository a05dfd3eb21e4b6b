/- Labels are valid: by the reference and by the program. -/
import Derived.Test.YtcpadaelgdmipaaGreatDoorTyHas
import Derived.Test.YtcpadaelgdmipaaGreatDoorDistinct
namespace Go.Proofs.YtcpadaelgdmipaaGreatDoor
open Go.RowKit Go.Shelf

theorem nodupS_snoc (l : List ByteArray) (x : ByteArray) : nodupS (l ++ [x]) = (nodupS l && !(l.any fun y => sameS y x)) := by
  have h := nodupS_iff (l ++ [x])
  have h2 := nodupS_iff l
  rw [Bool.eq_iff_iff, Bool.and_eq_true, h, h2, List.map_append, List.nodup_append]
  simp only [List.map_cons, List.map_nil, List.nodup_cons, List.not_mem_nil, not_false_eq_true, List.nodup_nil, and_self, true_and, List.mem_singleton, Bool.not_eq_true', ← Bool.not_eq_true, List.any_eq_true, sameS_iff]
  constructor
  · rintro ⟨h1, h2⟩
    refine ⟨h1, ?_⟩
    rintro ⟨y, hy, e⟩
    exact h2 _ (List.mem_map.2 ⟨y, hy, rfl⟩) _ rfl e
  · rintro ⟨h1, h2⟩
    refine ⟨h1, ?_⟩
    rintro a ha b rfl e
    obtain ⟨y, hy, rfl⟩ := List.mem_map.1 ha
    exact h2 ⟨y, hy, e⟩
theorem nodupS_take {l : List ByteArray} {q : Nat} (h : nodupS (l.take q) = false) : nodupS l = false := by
  apply Bool.eq_false_iff.2
  intro e
  rw [nodupS_iff] at e
  have : nodupS (l.take q) = true := by
    rw [nodupS_iff, List.map_take]
    exact List.Pairwise.sublist (List.take_sublist _ _) e
  rw [this] at h
  cases h
theorem nodupS_next {l : List ByteArray} {q : Nat} {x : ByteArray} (hx : l[q]? = some x) : nodupS (l.take (q + 1)) = (nodupS (l.take q) && !((l.take q).any fun y => sameS y x)) := by
  rw [List.take_add_one, hx]; exact nodupS_snoc _ _

set_option maxHeartbeats 4000000 in
set_option maxRecDepth 20000 in
theorem l03Labels_s (l : List ByteArray) (A : Option Addr) (cap : Nat) (w : World) (hv : D.At w anyB (strs l) (.slice A l.length cap)) :
    Calls Tryz.prog 134 #[.slice A l.length cap] w fun e w' => e = .returned (.bool (labelsOk l)) ∧ Below w.heap.size w w' := by
  obtain ⟨-, hn, hc⟩ := rows_bound hv
  unfold maxLen at hc
  have HV := Lib.hid hv
  clear hv
  by_cases hl1 : (l.length : Int) < 1
  · have E := Lib.hid (show labelsOk l = false by unfold labelsOk; rw [show decide (1 ≤ l.length) = false from decide_eq_false (by omega)]; rfl)
    go_enter Tryz.func134, Tryz.ntmps134
    go_wp2
    go_ret
    exact ⟨ret_eq (by rw [E.out]; rfl), Below.refl _ _⟩
  · by_cases hl2 : (16 : Int) < (l.length : Int)
    · have E := Lib.hid (show labelsOk l = false by unfold labelsOk; rw [show decide (l.length ≤ 16) = false from decide_eq_false (by omega)]; simp)
      go_enter Tryz.func134, Tryz.ntmps134
      go_wp2
      go_ret
      exact ⟨ret_eq (by rw [E.out]; rfl), Below.refl _ _⟩
    · have E := Lib.hid (show labelsOk l = (!(l.any fun s => !nameOk s) && nodupS l) by
        unfold labelsOk
        rw [show decide (1 ≤ l.length) = true from decide_eq_true (by omega), show decide (l.length ≤ 16) = true from decide_eq_true (by omega), Bool.true_and, Bool.true_and]
        congr 1
        rw [Bool.eq_iff_iff]; simp)
      go_enter Tryz.func134, Tryz.ntmps134
      go_wp2
      go_loopw [3, 4] (fun i _ wr => ∃ q : Nat, q ≤ l.length ∧ i = .int .i64 q ∧ NoneTo (fun s => !nameOk s) l q ∧ nodupS (l.take q) = true ∧ Below w.heap.size w wr) (fun i _ _ => l.length - (intOf i).toNat)
      case atStart => exact ⟨0, Nat.zero_le _, rfl, NoneTo.zero _ _, by simp [nodupS], Below.refl _ _⟩
      case round =>
        obtain ⟨q, hq, rfl, hst, hnd, hb⟩ := hrel
        by_cases hlt : q < l.length
        · obtain ⟨x, hx⟩ : ∃ x, l[q]? = some x := ⟨l[q], List.getElem?_eq_getElem hlt⟩
          have hk0 : (0 : Int) ≤ (q : Int) := by omega
          have hk1 : (q : Int) < (l.length : Int) := by omega
          obtain ⟨b, off, u0, rfl, -, hbl, hat, c0⟩ := rows_at1 strD_length HV.out hx
          obtain ⟨rfl, hxl⟩ := str_open hat
          replace c0 := (hb.cell (p := ⟨b, off + q, none⟩) hbl).trans c0
          have HN := Lib.hid (And.intro hx (And.intro hst hnd))
          clear hx hst hnd hat
          go_wp2_with fail
          refine (l03Name_s x hxl _).mono ?_
          rintro e w2 ⟨rfl, rfl⟩
          cases hs : nameOk x
          · have HB := Lib.hid (any_bad (p := fun s => !nameOk s) HN.out.1 (by rw [hs]; rfl))
            clear hs
            go_wp2
            go_ret
            exact ⟨ret_eq (by rw [E.out, HB.out]; rfl), hb⟩
          · have HB := Lib.hid (HN.out.2.1.next HN.out.1 (by rw [hs]; rfl))
            clear hs
            go_wp2
            go_loopw [4] (fun i wr2 => ∃ k : Nat, k ≤ q ∧ i = .int .i64 k ∧ NoneTo (fun y => sameS y x) l k ∧ Below w.heap.size w wr2) (fun i _ => q - (intOf i).toNat)
            case atStart => exact ⟨0, Nat.zero_le _, rfl, NoneTo.zero _ _, hb⟩
            case round =>
              obtain ⟨k, hk, rfl, hst2, hb2⟩ := hrel
              clear c0
              by_cases hltk : k < q
              · have hlk : k < l.length := by omega
                obtain ⟨y, hy⟩ : ∃ y, l[k]? = some y := ⟨l[k], List.getElem?_eq_getElem hlk⟩
                have hk2 : (0 : Int) ≤ (k : Int) := by omega
                have hk3 : (k : Int) < (l.length : Int) := by omega
                obtain ⟨b', off', u1, hA, -, hbl', hat', c1⟩ := rows_at1 strD_length HV.out hy
                obtain ⟨rfl, rfl⟩ : b = b' ∧ off = off' := by simpa using hA
                obtain ⟨rfl, -⟩ := str_open hat'
                obtain ⟨b', off', u2, hA', -, -, hat2, c2⟩ := rows_at1 strD_length HV.out HN.out.1
                obtain ⟨rfl, rfl⟩ : b = b' ∧ off = off' := by simpa using hA'
                obtain ⟨rfl, -⟩ := str_open hat2
                replace c1 := cell_regrown ((hb2.cell (p := ⟨b, off + k, none⟩) hbl).trans c1)
                replace c2 := cell_regrown ((hb2.cell (p := ⟨b, off + q, none⟩) hbl).trans c2)
                have HN2 := Lib.hid (And.intro hy hst2)
                clear hy hst2 hA hA' hat' hat2
                cases hs : (y.toList == x.toList)
                · have HC := Lib.hid (HN2.out.2.next HN2.out.1 (show sameS y x = false from hs))
                  go_wp2_with fail
                  refine wp_region_quiet_below (by kernel_rfl) (by kernel_rfl) ?_
                  repeat (quiet_step (fail))
                  refine wpQuiet_nil ?_
                  intro w3 hw3
                  have hb3 := hb2.trans ((below_of_regrown hw3).mono hb2.size)
                  clear hw3 c1 c2
                  go_wp2
                  go_roundw
                  case rel => exact ⟨k + 1, by omega, by go_num, HC.out, hb3⟩
                  case measure => simp [intOf]; omega
                · have HC := Lib.hid (nodupS_take (l := l) (q := q + 1) (by
                    rw [nodupS_next HN.out.1, any_bad (p := fun y => sameS y x) (k := k) (by rw [List.getElem?_take_of_lt hltk]; exact HN2.out.1) hs]; simp))
                  go_wp2_with fail
                  refine wp_region_quiet_below (by kernel_rfl) (by kernel_rfl) ?_
                  repeat (quiet_step (fail))
                  refine wpQuiet_nil ?_
                  intro w3 hw3
                  have hb3 := hb2.trans ((below_of_regrown hw3).mono hb2.size)
                  clear hw3 c1 c2
                  go_wp2
                  go_ret
                  exact ⟨ret_eq (by rw [E.out, HC.out]; simp), hb3⟩
              · obtain rfl : k = q := by omega
                have HC := Lib.hid (show nodupS (l.take (k + 1)) = true by rw [nodupS_next HN.out.1, HN.out.2.2]; unfold NoneTo at hst2; rw [hst2]; rfl)
                clear hst2
                go_wp2
                go_roundw
                case rel => exact ⟨k + 1, by omega, by go_num, HB.out, HC.out, hb2⟩
                case measure => simp [intOf]; omega
        · obtain rfl : q = l.length := by omega
          rw [List.take_length] at hnd
          have HB := Lib.hid (And.intro hst.end_ hnd)
          clear hst hnd
          go_wp2
          go_ret
          exact ⟨ret_eq (by rw [E.out, HB.out.1, HB.out.2]; rfl), hb⟩

theorem labelsOk_clo (x : ByteArray) (hx : x.size ≤ maxLen) (w : World) : Calls Tryz.prog 122 #[.string x] w fun e w' => e = .returned (.bool (!nameOk x)) ∧ Below w.heap.size w w' := by
  go_enter Tryz.func122, Tryz.ntmps122
  go_wp2_with fail
  refine (nameOk_i x hx _).mono ?_
  rintro e w1 ⟨rfl, hb⟩
  cases hs : nameOk x
  all_goals
    have HS := Lib.hid hs
    clear hs
    go_wp2
    go_ret
    exact ⟨ret_eq (by rw [HS.out]; rfl), hb⟩
set_option maxHeartbeats 2000000 in
set_option maxRecDepth 20000 in
theorem indexFuncS (l : List ByteArray) (A : Option Addr) (cap : Nat) (w : World) (hv : D.At w anyB (strs l) (.slice A l.length cap)) :
    Calls Tryz.prog 140 #[.slice A l.length cap, .func (.func 122) #[] #[]] w fun e w' => (∃ r : Int, e = .returned (.int .i64 r) ∧ decide (0 ≤ r) = l.any fun s => !nameOk s) ∧ Below w.heap.size w w' := by
  obtain ⟨-, hn, hc⟩ := rows_bound hv
  unfold maxLen at hc
  have HV := Lib.hid hv
  clear hv
  go_enter Tryz.func140, Tryz.ntmps140
  go_wp2
  go_loopw [5, 8] (fun _ i wr => ∃ k : Nat, k ≤ l.length ∧ i = .int .i64 k ∧ NoneTo (fun s => !nameOk s) l k ∧ Below w.heap.size w wr) (fun _ i _ => l.length - (intOf i).toNat)
  case atStart => exact ⟨0, Nat.zero_le _, rfl, NoneTo.zero _ _, Below.refl _ _⟩
  case round =>
    obtain ⟨k, hk, rfl, hst, hb⟩ := hrel
    by_cases hlt : k < l.length
    · obtain ⟨x, hx⟩ : ∃ x, l[k]? = some x := ⟨l[k], List.getElem?_eq_getElem hlt⟩
      have hk0 : (0 : Int) ≤ (k : Int) := by omega
      have hk1 : (k : Int) < (l.length : Int) := by omega
      obtain ⟨b, off, u0, rfl, -, hbl, hat, c0⟩ := rows_at1 strD_length HV.out hx
      obtain ⟨rfl, hxl⟩ := str_open hat
      replace c0 := (hb.cell (p := ⟨b, off + k, none⟩) hbl).trans c0
      have HN := Lib.hid (And.intro hx hst)
      clear hx hst hat
      go_wp2_with fail
      refine (labelsOk_clo x hxl _).mono ?_
      rintro e w2 ⟨rfl, hb1⟩
      have hb2 := hb.trans (hb1.mono hb.size)
      clear hb1 c0
      cases hs : nameOk x
      · have HB := Lib.hid (any_bad (p := fun s => !nameOk s) HN.out.1 (by rw [hs]; rfl))
        clear hs
        go_wp2
        go_ret
        exact ⟨⟨_, rfl, by rw [HB.out]; simp⟩, hb2⟩
      · have HB := Lib.hid (HN.out.2.next HN.out.1 (by rw [hs]; rfl))
        clear hs
        go_wp2
        go_roundw
        case rel => exact ⟨k + 1, by omega, by go_num, HB.out, hb2⟩
        case measure => simp [intOf]; omega
    · obtain rfl : k = l.length := by omega
      have HB := Lib.hid hst.end_
      clear hst
      go_wp2
      go_ret
      exact ⟨⟨-1, rfl, by rw [HB.out]; rfl⟩, hb⟩
set_option maxRecDepth 20000 in
theorem containsFuncS (l : List ByteArray) (A : Option Addr) (cap : Nat) (w : World) (hv : D.At w anyB (strs l) (.slice A l.length cap)) :
    Calls Tryz.prog 121 #[.slice A l.length cap, .func (.func 122) #[] #[]] w fun e w' => e = .returned (.bool (l.any fun s => !nameOk s)) ∧ Below w.heap.size w w' := by
  have H := Lib.hid (indexFuncS l A cap w hv)
  clear hv
  go_enter Tryz.func121, Tryz.ntmps121
  go_wp2_with fail
  refine H.out.mono ?_
  rintro e w1 ⟨⟨r, rfl, hr⟩, hb⟩
  have HR := Lib.hid hr
  clear hr
  by_cases h0 : 0 ≤ r
  all_goals
    go_wp2
    go_ret
    exact ⟨ret_eq (by rw [← HR.out]; simp [h0]), hb⟩
theorem sizeS_any (A : Option Addr) (n cap : Nat) (w : World) : Calls Tryz.prog 105 #[.slice A n cap] w fun e w' => e = .returned (.int .i64 n) ∧ w = w' := by
  go_enter Tryz.func105, Tryz.ntmps105
  go_wp2
  go_ret
  exact ⟨rfl, rfl⟩
set_option maxHeartbeats 1000000 in
set_option maxRecDepth 20000 in
theorem labelsOk_i (l : List ByteArray) (A : Option Addr) (cap : Nat) (w : World) (hv : D.At w anyB (strs l) (.slice A l.length cap)) :
    Calls Tryz.prog 102 #[.slice A l.length cap] w fun e w' => e = .returned (.bool (labelsOk l)) ∧ Below w.heap.size w w' := by
  have HV := Lib.hid hv
  clear hv
  cases h1 : inR 1 (l.length : Int) 16
  · have h1' := inR_not.1 h1
    have E := Lib.hid (show labelsOk l = false by
      unfold labelsOk
      by_cases h0 : 1 ≤ l.length
      · rw [show decide (l.length ≤ 16) = false from decide_eq_false (by omega)]; simp
      · rw [show decide (1 ≤ l.length) = false from decide_eq_false h0]; simp)
    clear h1'
    go_enter Tryz.func102, Tryz.ntmps102
    go_wp2_with fail
    refine (sizeS_any _ _ _ _).mono ?_
    rintro e w1 ⟨rfl, rfl⟩
    go_wp2_with fail
    refine (within_any _ _ _ _).mono ?_
    rintro e w1 ⟨rfl, rfl⟩
    rw [h1]
    clear h1
    go_wp2
    go_ret
    exact ⟨ret_eq (by rw [E.out]; rfl), Below.refl _ _⟩
  · have h1' := inR_iff.1 h1
    have E := Lib.hid (show labelsOk l = (nodupS l && !(l.any fun s => !nameOk s)) by
        unfold labelsOk
        rw [show decide (1 ≤ l.length) = true from decide_eq_true (by omega), show decide (l.length ≤ 16) = true from decide_eq_true (by omega), Bool.true_and, Bool.true_and, Bool.and_comm]
        congr 1
        rw [Bool.eq_iff_iff]; simp)
    have hl0 : 0 < l.length := by omega
    have hl16 : l.length ≤ 1000 := by omega
    clear h1'
    go_enter Tryz.func102, Tryz.ntmps102
    go_wp2_with fail
    refine (sizeS_any _ _ _ _).mono ?_
    rintro e w1 ⟨rfl, rfl⟩
    go_wp2_with fail
    refine (within_any _ _ _ _).mono ?_
    rintro e w1 ⟨rfl, rfl⟩
    rw [h1]
    clear h1
    go_wp2_with fail
    refine (distinct_i l _ _ _ HV.out hl0 hl16).mono ?_
    rintro e w2 ⟨rfl, hb2⟩
    cases h2 : nodupS l
    · have E2 := Lib.hid h2
      clear h2
      go_wp2
      go_ret
      exact ⟨ret_eq (by rw [E.out, E2.out]; rfl), hb2⟩
    · have E2 := Lib.hid h2
      clear h2
      go_wp2_with fail
      refine (containsFuncS l _ _ _ (HV.out.below hb2)).mono ?_
      rintro e w3 ⟨rfl, hb3⟩
      have hb4 := hb2.trans (hb3.mono hb2.size)
      cases h3 : l.any fun s => !nameOk s
      all_goals
        have E3 := Lib.hid h3
        clear h3
        go_wp2
        go_ret
        exact ⟨ret_eq (by rw [E.out, E2.out, E3.out]; rfl), hb4⟩
end Go.Proofs.YtcpadaelgdmipaaGreatDoor
