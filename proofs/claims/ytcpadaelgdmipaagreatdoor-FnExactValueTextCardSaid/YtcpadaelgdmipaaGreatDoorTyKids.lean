/- The program's kidsOk. -/
import Derived.Test.YtcpadaelgdmipaaGreatDoorTyKind
namespace Go.Proofs.YtcpadaelgdmipaaGreatDoor
open Go.RowKit Go.Shelf

theorem sizeT_any (A : Option Addr) (n cap : Nat) (w : World) : Calls Tryz.prog 96 #[.slice A n cap] w fun e w' => e = .returned (.int .i64 n) ∧ w = w' := by
  go_enter Tryz.func96, Tryz.ntmps96
  go_wp2
  go_ret
  exact ⟨rfl, rfl⟩
set_option maxHeartbeats 1000000 in
set_option maxRecDepth 20000 in
theorem kidsOk_i (k : Int) (n : ByteArray) (l : List ByteArray) (kids : List Ty) (cs : List Value) (m : Int) (w : World) (hcs : D.Ats w anyB (Ty.ds (.mk k n l kids)) cs) :
    Calls Tryz.prog 104 #[.agg cs.toArray, .int .i64 m] w fun e w' => e = .returned (.bool (((kids.length : Int) == m) && !(kids.any isU))) ∧ Below w.heap.size w w' := by
  obtain ⟨A, cap, B, cap2, rfl, -, -, hl, hk⟩ := Ty.open_ hcs
  have HV := Lib.hid hk
  clear hcs hl hk
  cases hq : ((kids.length : Int) == m)
  · go_enter Tryz.func104, Tryz.ntmps104
    go_wp2_with fail
    refine (sizeT_any _ _ _ _).mono ?_
    rintro e w1 ⟨rfl, rfl⟩
    go_wp2
    go_ret
    exact ⟨rfl, by repeat (first | exact Below.refl _ _ | refine Below.alloc ?_ (by first | omega | (simp <;> omega)) _)⟩
  · go_enter Tryz.func104, Tryz.ntmps104
    go_wp2_with fail
    refine (sizeT_any _ _ _ _).mono ?_
    rintro e w1 ⟨rfl, rfl⟩
    go_wp2_with fail
    refine (containsFunc0 111 isU kids (fun x _ => isUnit_i x) (enters_of Tryz.func111 (by kernel_rfl) rfl) _ _ _ (HV.out.below ((Below.refl _ _).alloc (Nat.le_refl _) _))).mono ?_
    rintro e w2 ⟨rfl, hb2⟩
    obtain ⟨B2, -⟩ := box1 (cA := [_, _, _, _]) hb2
    clear hb2
    cases h3 : kids.any isU
    all_goals
      have E3 := Lib.hid h3
      clear h3
      go_wp2
      go_ret
      exact ⟨ret_eq (by rw [E3.out]; rfl), B2⟩
end Go.Proofs.YtcpadaelgdmipaaGreatDoor
