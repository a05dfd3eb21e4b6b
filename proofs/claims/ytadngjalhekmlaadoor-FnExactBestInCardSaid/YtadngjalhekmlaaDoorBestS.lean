/- BestIn: the reference's walk. -/
import Derived.Test.YtadngjalhekmlaaDoorBestP
import Derived.Test.YtadngjalhekmlaaDoorVer
import Derived.Test.YtadngjalhekmlaaDoorGStrs
import Derived.Deep.QuietTactic
import Derived.BigQuiet
namespace Go.Proofs.YtadngjalhekmlaaDoor
open Go.RowKit Go.Shelf

/-- What BestIn gives back. -/
def retBest (a b : Int) (L : List ByteArray) : Value := .tuple #[.string (bestT a b L), .bool (bestIs a b L)]
set_option maxHeartbeats 2000000 in
set_option maxRecDepth 20000 in
theorem bestIn_s (L : List ByteArray) (v : Value) (a b : Int) (ha : -9223372036854775808 ≤ a ∧ a ≤ 9223372036854775807) (w : World) (hv : D.At w anyB (strs L) v) :
    Calls Tryd.prog 23 #[v, .agg #[.int .i64 a, .int .i64 b]] w fun e w' => e = .returned (retBest a b L) ∧ Below w.heap.size w w' := by
  obtain ⟨A, cap, rfl, hn, hc⟩ := rows_form strD_length hv
  unfold maxLen at hc
  have HV := Lib.hid hv
  clear hv
  obtain ⟨w0, hw0⟩ : ∃ w0, w0 = w.alloc (.cells #[.int .i64 a, .int .i64 b] 27) := ⟨_, rfl⟩
  have bA : Box w0 w.heap.size 27 [.int .i64 a, .int .i64 b] := by rw [hw0]; exact Box.new w _ _
  have B0 : Below w.heap.size w w0 := by rw [hw0]; exact (Below.refl _ _).alloc (Nat.le_refl _) _
  go_enter Tryd.func23, Tryd.ntmps23
  go_upto_region 1 with fail
  rw [← hw0]
  clear hw0
  go_wp2
  go_loopw [6, 7, 8] (fun m i _ wr => ∃ k : Nat, k ≤ L.length ∧ i = .int .i64 k ∧ m = .int .i64 (bestV a b (L.take k)) ∧ Below w.heap.size w wr ∧ Box wr w.heap.size 27 [.int .i64 a, .int .i64 b]) (fun _ i _ _ => L.length - (intOf i).toNat)
  case atStart => exact ⟨0, Nat.zero_le _, rfl, rfl, B0, bA⟩
  case round =>
    obtain ⟨k, hk, rfl, rfl, hb, hbox⟩ := hrel
    have hrg := best_range a b (L.take k)
    obtain ⟨M, hM⟩ : ∃ M, bestV a b (L.take k) = M := ⟨_, rfl⟩
    rw [hM] at hrg ⊢
    have HM := Lib.hid hM
    clear hM
    by_cases hlt : k < L.length
    · obtain ⟨x, hx⟩ : ∃ x, L[k]? = some x := ⟨L[k], List.getElem?_eq_getElem hlt⟩
      have hk0 : (0 : Int) ≤ (k : Int) := by omega
      have hk1 : (k : Int) < (L.length : Int) := by omega
      obtain ⟨bk, off, u0, rfl, -, hbl, hat, c0⟩ := rows_at1 strD_length HV.out hx
      replace c0 := (hb.cell (p := ⟨bk, off + k, none⟩) hbl).trans c0
      obtain ⟨rfl, hxs⟩ := str_open hat
      unfold maxLen at hxs
      have hblr : bk < wr.heap.size := Nat.lt_of_lt_of_le hbl hb.size
      have HX := Lib.hid (bestV_next (a := a) (b := b) hx)
      rw [HM.out] at HX
      clear hx hat
      go_wp2_with fail
      refine (l02Num_v x hxs _).mono ?_
      rintro e w1 ⟨rfl, hb1⟩
      have hb' := hb.trans (hb1.mono hb.size)
      have hbox' := hbox.call hb1
      replace c0 := (hb1.cell (p := ⟨bk, off + k, none⟩) hblr).trans c0
      clear hb1 hbox
      by_cases hgt : M < numV x
      · have HI := Lib.hid (fun w => inRange_s x hxs a b ha w)
        obtain ⟨Z, hZ⟩ : ∃ Z, inRan x a b = Z := ⟨_, rfl⟩
        rw [hZ] at HI
        have HZ := Lib.hid hZ
        obtain ⟨X, hX⟩ : ∃ X, numV x = X := ⟨_, rfl⟩
        have HXn := Lib.hid hX
        rw [hX] at hgt ⊢
        clear hX hZ
        replace c0 := cell_regrown c0
        have d0 := cell_regrown (show w1.cell? ⟨w.heap.size, 0, none⟩ = some (.int .i64 a) from hbox'.cell 0)
        have d1 := cell_regrown (show w1.cell? ⟨w.heap.size, 1, none⟩ = some (.int .i64 b) from hbox'.cell 1)
        go_wp2_with fail
        refine wp_region_quiet_below (by kernel_rfl) (by kernel_rfl) ?_
        repeat (first | go_big_quiet_step (with_reducible exact Calls.regrown_of (HI.out _)) | quiet_step (with_reducible exact Calls.regrown_of (HI.out _)))
        refine wpQuiet_nil ?_
        intro w2 hw2
        have hb2 := hb'.trans ((below_of_regrown hw2).mono hb'.size)
        have hbox2 := hbox'.call (below_of_regrown hw2)
        clear hw2 c0 d0 d1
        cases Z
        · have HE := Lib.hid (show bestV a b (L.take (k + 1)) = M by rw [HX.out, stepB_out HZ.out])
          go_wp2
          go_roundw
          case rel => exact ⟨k + 1, by omega, by go_num, by rw [HE.out], hb2, hbox2⟩
          case measure => simp [intOf]; omega
        · have HE := Lib.hid (show bestV a b (L.take (k + 1)) = X by rw [HX.out, stepB, HXn.out, if_pos ⟨hgt, HZ.out⟩])
          go_wp2
          go_roundw
          case rel => exact ⟨k + 1, by omega, by go_num, by rw [HE.out], hb2, hbox2⟩
          case measure => simp [intOf]; omega
      · have HE := Lib.hid (show bestV a b (L.take (k + 1)) = M by rw [HX.out, stepB, if_neg (fun c => hgt c.1)])
        obtain ⟨X, hX⟩ : ∃ X, numV x = X := ⟨_, rfl⟩
        rw [hX] at hgt ⊢
        have hgd : decide (M < X) = false := decide_eq_false hgt
        clear hX
        go_wp2_with fail
        refine wp_region_quiet_below (by kernel_rfl) (by kernel_rfl) ?_
        repeat (first | go_big_quiet_step (fail) | quiet_step (fail))
        refine wpQuiet_nil ?_
        intro w2 hw2
        have hb2 := hb'.trans ((below_of_regrown hw2).mono hb'.size)
        have hbox2 := hbox'.call (below_of_regrown hw2)
        clear hw2 c0
        go_wp2
        go_roundw
        case rel => exact ⟨k + 1, by omega, by go_num, by rw [HE.out], hb2, hbox2⟩
        case measure => simp [intOf]; omega
    · obtain rfl : k = L.length := by omega
      have hall : bestV a b L = M := by rw [← HM.out, List.take_length]
      by_cases hneg : M < 0
      · have HE := Lib.hid (best_none (a := a) (b := b) (L := L) (by rw [hall]; exact hneg))
        clear hall
        go_wp2
        exact bodyPost_ret (v := .tuple #[.string ⟨#[]⟩, .bool false]) (by simp [results, Tryd.results23, go_sem]) rfl ⟨by unfold retBest; rw [HE.out.1, HE.out.2], hb⟩
      · obtain ⟨m, rfl⟩ : ∃ m : Nat, M = m := ⟨M.toNat, by omega⟩
        have hm : m ≤ 999999999 := by omega
        have HE := Lib.hid (best_some (a := a) (b := b) (L := L) (by rw [hall]; exact hneg))
        rw [hall] at HE
        clear hall
        go_wp2_with fail
        refine (l02Text_s m hm _).mono ?_
        rintro e w1 ⟨rfl, hb1⟩
        have hb2 := hb.trans (hb1.mono hb.size)
        clear hb1
        go_wp2
        exact bodyPost_ret (v := .tuple #[.string (verT m), .bool true]) (by simp [results, Tryd.results23, go_sem]) rfl ⟨by unfold retBest; rw [HE.out.1, HE.out.2]; rfl, hb2⟩
end Go.Proofs.YtadngjalhekmlaaDoor
