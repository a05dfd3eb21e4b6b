/- What asks for the number of a version: VersionOk, Serves, CompareVersions, InRange, by the reference and by the program. -/
import Derived.Test.YtadngjalhekmlaaDoorNumR
import Derived.Test.YtadngjalhekmlaaDoorRanges
namespace Go.Proofs.YtadngjalhekmlaaDoor
open Go.RowKit Go.Shelf

theorem numOr_pos {s : ByteArray} {m : Nat} (h : numV s = (m : Int)) : numOr s = (m : Int) ∧ numIs s = true := by
  unfold numOr numIs
  rw [h]
  exact ⟨if_neg (by omega), by simp⟩
theorem numOr_neg {s : ByteArray} (h : numV s = -1) : numOr s = 0 ∧ numIs s = false := by
  unfold numOr numIs
  rw [h]
  exact ⟨rfl, rfl⟩
set_option maxHeartbeats 1000000 in
set_option maxRecDepth 20000 in
theorem versionOk_s (s : ByteArray) (hs : s.size ≤ 9223372036854775807) (w : World) : Calls Tryd.prog 10 #[.string s] w fun e w' => e = .returned (.bool (numIs s)) ∧ Below w.heap.size w w' := by
  rcases numV_cases s with h | ⟨m, hm, h, -⟩
  · have HV := Lib.hid (numOr_neg h).2
    have HN := Lib.hid h
    clear h
    go_enter Tryd.func10, Tryd.ntmps10
    go_wp2_with fail
    refine (l02Num_v s hs _).mono ?_
    rintro e w1 ⟨rfl, hb1⟩
    rw [HN.out]
    go_wp2
    go_ret
    exact ⟨ret_eq (by rw [HV.out]; try rfl), hb1⟩
  · have HV := Lib.hid (numOr_pos h).2
    have HN := Lib.hid h
    clear h
    go_enter Tryd.func10, Tryd.ntmps10
    go_wp2_with fail
    refine (l02Num_v s hs _).mono ?_
    rintro e w1 ⟨rfl, hb1⟩
    rw [HN.out]
    go_wp2
    go_ret
    exact ⟨ret_eq (by rw [HV.out]; try rfl), hb1⟩
set_option maxHeartbeats 1000000 in
set_option maxRecDepth 20000 in
theorem versionOk_i (s : ByteArray) (hs : s.size ≤ 1048576) (w : World) (hv : VerW w) : Calls Tryd.prog 11 #[.string s] w fun e w' => e = .returned (.bool (numIs s)) ∧ Below w.heap.size w w' := by
  have HV := Lib.hid hv
  clear hv
  go_enter Tryd.func11, Tryd.ntmps11
  go_wp2_with fail
  refine (versionNumber_v s hs _ HV.out).mono ?_
  rintro e w1 ⟨rfl, hb1⟩
  go_wp2
  go_ret
  exact ⟨rfl, hb1⟩
end Go.Proofs.YtadngjalhekmlaaDoor
