/- BestIn: the program's walk. -/
import Derived.Test.YtadngjalhekmlaaDoorBestS
import Derived.Test.YtadngjalhekmlaaDoorDelF
import Derived.Test.YtadngjalhekmlaaDoorCmpV
import Derived.Test.YtadngjalhekmlaaDoorShelf
namespace Go.Proofs.YtadngjalhekmlaaDoor
open Go.RowKit Go.Shelf

theorem cmp_gt {x m : ByteArray} {a b : Int} (hx : inRan x a b = true) (hm : inRan m a b = true) : (numV m < numV x → (cmpV x m).1 = 1) ∧ (¬ numV m < numV x → (cmpV x m).1 ≤ 0) := by
  obtain ⟨k, -, hk, -⟩ := inRan_num hx
  obtain ⟨q, -, hq, -⟩ := inRan_num hm
  unfold cmpV
  rw [hk, hq, if_neg (by omega)]
  constructor
  · intro h
    rw [if_neg (by omega), if_pos h]
  · intro h
    by_cases h2 : (k : Int) < q
    · rw [if_pos h2]; decide
    · rw [if_neg h2, if_neg h]; decide
set_option maxHeartbeats 1000000 in
set_option maxRecDepth 20000 in
theorem pred_i (x : ByteArray) (hx : x.size ≤ 1048576) (a b : Int) (ha : -9223372036854775808 ≤ a ∧ a ≤ 9223372036854775807) (g : Nat) (w : World) (hb : Box w g 27 [.int .i64 a, .int .i64 b]) (hv : VerW w) :
    Calls Tryd.prog 42 #[.string x, .pointer (some ⟨g, 0, none⟩)] w fun e w' => e = .returned (.bool (!inRan x a b)) ∧ Below w.heap.size w w' := by
  have c := hb.cell
  have HI := Lib.hid (inRange_i x hx a b ha w hv)
  obtain ⟨R, hR⟩ : ∃ R, inRan x a b = R := ⟨_, rfl⟩
  rw [hR] at HI ⊢
  clear hv hR
  go_enter Tryd.func42, Tryd.ntmps42
  go_wp2_with fail
  refine HI.out.mono ?_
  rintro e w1 ⟨rfl, hb1⟩
  clear c
  go_wp2
  exact bodyPost_ret (v := .bool (!R)) (by simp [results, Tryd.results42, go_sem]) rfl ⟨rfl, hb1⟩
set_option maxHeartbeats 1000000 in
set_option maxRecDepth 20000 in
theorem order_i (x y : ByteArray) (hx : x.size ≤ 1048576) (hy : y.size ≤ 1048576) (w : World) (hv : VerW w) :
    Calls Tryd.prog 44 #[.string x, .string y] w fun e w' => e = .returned (.int .i64 (cmpV x y).1) ∧ Below w.heap.size w w' := by
  have HI := Lib.hid (compare_i x y hx hy w hv)
  obtain ⟨X, hX⟩ : ∃ X, cmpV x y = X := ⟨_, rfl⟩
  obtain ⟨p, q⟩ := X
  rw [hX] at HI ⊢
  clear hv hX
  go_enter Tryd.func44, Tryd.ntmps44
  go_wp2_with fail
  refine HI.out.mono ?_
  rintro e w1 ⟨rfl, hb1⟩
  go_wp2
  exact bodyPost_ret (v := .int .i64 p) (by simp [results, Tryd.results44, go_sem]) rfl ⟨rfl, hb1⟩
set_option maxHeartbeats 2000000 in
set_option maxRecDepth 20000 in
theorem maxFuncS (K : List ByteArray) (a b : Int) (hin : ∀ x ∈ K, inRan x a b = true ∧ x.size ≤ 1048576) (g cap : Nat) (w : World) (hv : VerW w) (hrow : RowS w g K) (hn : K.length ≤ 1048576) (h0 : 0 < K.length) :
    Calls Tryd.prog 43 #[.slice (some ⟨g, 0, none⟩) K.length cap, .func (.func 44) #[] #[]] w fun e w' => (∃ m, e = .returned (.string m) ∧ MaxTo a b K K.length m) ∧ Below w.heap.size w w' := by
  obtain ⟨x0, hx0⟩ : ∃ x, K[0]? = some x := ⟨K[0], List.getElem?_eq_getElem h0⟩
  have HV := Lib.hid hv
  have HR := Lib.hid hrow
  have HIN := Lib.hid hin
  have HS := Lib.hid (MaxTo.start hx0 (hin x0 (List.mem_of_getElem? hx0)).1)
  have hs0 := (hin x0 (List.mem_of_getElem? hx0)).2
  have c0 := (hrow.cell hx0).1
  have hk1 : ¬ (K.length : Int) < 1 := by omega
  clear hv hrow hin hx0
  go_enter Tryd.func43, Tryd.ntmps43
  go_wp2
  go_loopw [5, 6] (fun m i wr => ∃ (t : Nat) (x : ByteArray), m = .string x ∧ i = .int .i64 t ∧ 1 ≤ t ∧ t ≤ K.length ∧ x.size ≤ 1048576 ∧ MaxTo a b K t x ∧ Below w.heap.size w wr) (fun _ i _ => K.length - (intOf i).toNat)
  case atStart => exact ⟨1, x0, rfl, rfl, Nat.le_refl _, h0, hs0, HS.out, Below.refl _ _⟩
  case round =>
    obtain ⟨t, m, rfl, rfl, ht1, htn, hms, hmax, hb⟩ := hrel
    have HM := Lib.hid hmax
    clear hmax
    by_cases hlt : t < K.length
    · obtain ⟨x, hx⟩ : ∃ x, K[t]? = some x := ⟨K[t], List.getElem?_eq_getElem hlt⟩
      have hk0 : (0 : Int) ≤ (t : Int) := by omega
      have hk2 : (t : Int) < (K.length : Int) := by omega
      obtain ⟨hxr, hxs⟩ := HIN.out x (List.mem_of_getElem? hx)
      have HG := Lib.hid (cmp_gt hxr HM.out.1)
      have c1 := ((HR.out.call hb).cell hx).1
      have HX := Lib.hid (And.intro hx hxr)
      clear hx hxr c0
      go_wp2_with fail
      refine (order_i x m hxs hms _ (HV.out.below hb)).mono ?_
      rintro e w1 ⟨rfl, hb1⟩
      have hb2 := hb.trans (hb1.mono hb.size)
      clear hb1 c1
      have c1 := ((HR.out.call hb2).cell HX.out.1).1
      by_cases hg : numV m < numV x
      · have HU := Lib.hid (HM.out.up HX.out.1 HX.out.2 hg)
        rw [HG.out.1 hg]
        clear hg
        go_wp2
        go_roundw
        case rel => exact ⟨t + 1, x, rfl, by go_num, by omega, by omega, hxs, HU.out, hb2⟩
        case measure => simp [intOf]; omega
      · have HU := Lib.hid (HM.out.stay HX.out.1 hg)
        have hle := HG.out.2 (Int.not_lt.1 hg)
        obtain ⟨r, hr⟩ : ∃ r, (cmpV x m).1 = r := ⟨_, rfl⟩
        rw [hr] at hle ⊢
        have hnp : ¬ 0 < r := by omega
        clear hg hr c1
        go_wp2
        go_roundw
        case rel => exact ⟨t + 1, m, rfl, by go_num, by omega, by omega, hms, HU.out, hb2⟩
        case measure => simp [intOf]; omega
    · obtain rfl : t = K.length := by omega
      clear c0
      go_wp2
      exact bodyPost_ret (v := .string m) (by simp [results, Tryd.results43, go_sem]) rfl ⟨⟨m, rfl, HM.out⟩, hb⟩
set_option maxHeartbeats 2000000 in
set_option maxRecDepth 20000 in
theorem bestIn_i (L : List ByteArray) (a b : Int) (ha : -9223372036854775808 ≤ a ∧ a ≤ 9223372036854775807) (bk cap : Nat) (w : World) (hv : D.At w anyB (strs L) (.slice (some ⟨bk, 0, none⟩) L.length cap)) (hn : L.length ≤ 1048576) (hxs : ∀ x ∈ L, x.size ≤ 1048576) (hw : VerW w) :
    Calls Tryd.prog 25 #[.slice (some ⟨bk, 0, none⟩) L.length cap, .agg #[.int .i64 a, .int .i64 b]] w fun e w' => e = .returned (retBest a b L) ∧ Below w.heap.size w w' := by
  obtain ⟨w0, hw0⟩ : ∃ w0, w0 = w.alloc (.cells #[.int .i64 a, .int .i64 b] 27) := ⟨_, rfl⟩
  have bA : Box w0 w.heap.size 27 [.int .i64 a, .int .i64 b] := by rw [hw0]; exact Box.new w _ _
  have B0 : Below w.heap.size w w0 := by rw [hw0]; exact (Below.refl _ _).alloc (Nat.le_refl _) _
  have hcells : ∀ j, j < L.length → w0.cell? ⟨bk, 0 + j, none⟩ = some (.string (L.getD j ByteArray.empty)) := by
    intro j hj
    obtain ⟨x, hx⟩ : ∃ x, L[j]? = some x := ⟨L[j], List.getElem?_eq_getElem hj⟩
    obtain ⟨b', off', u0, e, -, hbl, hat, c0⟩ := rows_at1 strD_length hv hx
    obtain ⟨rfl, -⟩ := str_open hat
    simp only [Option.some.injEq, Addr.mk.injEq] at e
    obtain ⟨rfl, rfl, -⟩ := e
    rw [(B0.cell (p := ⟨bk, 0 + j, none⟩) hbl).trans c0, List.getD, hx]
    rfl
  have HC := Lib.hid (Tryd.slices_Clone_string bk 0 L.length cap L w0 (Nat.le_refl _) (by omega) hcells)
  rw [List.take_length] at HC
  have HP := Lib.hid (show IsPs 42 (fun x => !inRan x a b) #[.pointer (some ⟨w.heap.size, 0, none⟩)] w0 L from fun x hx w' hb => pred_i x (hxs x hx) a b ha w.heap.size w' (bA.call hb) ((hw.below B0).below hb))
  have HW := Lib.hid (hw.below B0)
  have HXS := Lib.hid hxs
  clear hv hcells hw hxs bA
  go_enter Tryd.func25, Tryd.ntmps25
  go_upto_region 1 with fail
  rw [← hw0]
  clear hw0
  go_wp2_with fail
  refine HC.out.mono ?_
  rintro e w1 ⟨v1, rfl, hown, hne, hb1⟩
  obtain ⟨g, cap1, rfl, hg, hcap, -, -, hrow⟩ := RowS.of_own hown hne
  have HD := Lib.hid (deleteFuncS 42 _ _ L w0 HP.out (fun _ _ => rfl) g cap1 w1 hb1 hg hrow hn hcap)
  clear hown hne hrow
  go_wp2_with fail
  refine HD.out.mono ?_
  rintro e w2 ⟨rfl, hrow2, hb2⟩
  have hfil : L.filter (fun x => !(!inRan x a b)) = L.filter (fun x => inRan x a b) := by simp
  rw [hfil] at hrow2 ⊢
  have hB2 := B0.trans (hb2.mono B0.size)
  have hKl : (L.filter (fun x => inRan x a b)).length ≤ L.length := List.length_filter_le _ _
  have hKi : ∀ x ∈ L.filter (fun x => inRan x a b), inRan x a b = true ∧ x.size ≤ 1048576 := fun x hx => ⟨(List.mem_filter.1 hx).2, HXS.out x (List.mem_filter.1 hx).1⟩
  have hend : ∀ m, MaxTo a b (L.filter (fun x => inRan x a b)) (L.filter (fun x => inRan x a b)).length m → bestT a b L = m ∧ bestIs a b L = true := fun m h => h.end_
  have hemp := @best_empty a b L
  obtain ⟨K, hK⟩ : ∃ K, L.filter (fun x => inRan x a b) = K := ⟨_, rfl⟩
  rw [hK] at hrow2 hKl hKi hend hemp ⊢
  clear hfil hK hg hcap hb1
  by_cases hz : K.length = 0
  · obtain rfl : K = [] := List.length_eq_zero_iff.1 hz
    have HE := Lib.hid (hemp rfl)
    clear hend hemp hrow2 hz
    go_wp2
    exact bodyPost_ret (v := .tuple #[.string ⟨#[]⟩, .bool false]) (by simp [results, Tryd.results25, go_sem]) rfl ⟨by unfold retBest; rw [HE.out.1, HE.out.2], hB2⟩
  · have HM := Lib.hid (maxFuncS K a b hKi g cap1 w2 (HW.out.below hb2) hrow2 (by omega) (by omega))
    have HEND := Lib.hid hend
    have hz2 : ((K.length : Int) == 0) = false := beq_eq_false_iff_ne.2 (by omega)
    clear hend hemp hrow2 hKi
    go_wp2_with fail
    refine HM.out.mono ?_
    rintro e w3 ⟨⟨m, rfl, hm⟩, hb3⟩
    have hB3 := hB2.trans (hb3.mono hB2.size)
    have HE := Lib.hid (HEND.out m hm)
    clear hm hb3
    go_wp2
    exact bodyPost_ret (v := .tuple #[.string m, .bool true]) (by simp [results, Tryd.results25, go_sem]) rfl ⟨by unfold retBest; rw [HE.out.1, HE.out.2], hB3⟩
end Go.Proofs.YtadngjalhekmlaaDoor
