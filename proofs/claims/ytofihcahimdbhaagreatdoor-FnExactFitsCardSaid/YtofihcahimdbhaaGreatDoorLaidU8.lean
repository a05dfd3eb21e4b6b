/- What the row's condition gives: utf8's two tables. -/
import Derived.Test.YtofihcahimdbhaaGreatDoorRows
import Derived.Test.YtofihcahimdbhaaGreatDoorUtfT
import Derived.ProofKit
import Derived.LaidMore
import Derived.Lib.LaidU8T
import Derived.PinnedBridge
import Derived.MakeChecks
namespace Go.Proofs.YtofihcahimdbhaaGreatDoor
open Go.ChangeShapes Go.WideShapes Go.ChangeAt Go.RowKit
theorem accept_eq : Rows.laid_unicode_utf8_acceptRanges = Lib.acceptData := by kernel_rfl
theorem Tabs_of_fnExactFits {W : World} (h : laidMetH Tryz.prog Rows.fnExactFitsRow.laid W) : Tabs W := by
  rw [MakeChecks.laidMetH_plain _ _ _ (by kernel_rfl)] at h
  exact utf8Tabs_of_readsT (U8Types.of196 Tryz.laysValid) ⟨by kernel_rfl, by kernel_rfl, by kernel_rfl, by kernel_rfl, by kernel_rfl, by kernel_rfl, by kernel_rfl⟩
    (by rw [← Pinned.utf8First_eq]; exact Lib.laidMet.reads h (.tail _ (.head _))) (by rw [← accept_eq]; exact Lib.laidMet.reads h (.head _))
theorem Tabs_of_fnExactHandlesIn {W : World} (h : laidMetH Tryz.prog Rows.fnExactHandlesInRow.laid W) : Tabs W := by
  rw [MakeChecks.laidMetH_plain _ _ _ (by kernel_rfl)] at h
  exact utf8Tabs_of_readsT (U8Types.of196 Tryz.laysValid) ⟨by kernel_rfl, by kernel_rfl, by kernel_rfl, by kernel_rfl, by kernel_rfl, by kernel_rfl, by kernel_rfl⟩
    (by rw [← Pinned.utf8First_eq]; exact Lib.laidMet.reads h (.tail _ (.head _))) (by rw [← accept_eq]; exact Lib.laidMet.reads h (.head _))
theorem Tabs_of_fnExactWithHandles {W : World} (h : laidMetH Tryz.prog Rows.fnExactWithHandlesRow.laid W) : Tabs W := by
  rw [MakeChecks.laidMetH_plain _ _ _ (by kernel_rfl)] at h
  exact utf8Tabs_of_readsT (U8Types.of196 Tryz.laysValid) ⟨by kernel_rfl, by kernel_rfl, by kernel_rfl, by kernel_rfl, by kernel_rfl, by kernel_rfl, by kernel_rfl⟩
    (by rw [← Pinned.utf8First_eq]; exact Lib.laidMet.reads h (.tail _ (.head _))) (by rw [← accept_eq]; exact Lib.laidMet.reads h (.head _))
end Go.Proofs.YtofihcahimdbhaaGreatDoor
