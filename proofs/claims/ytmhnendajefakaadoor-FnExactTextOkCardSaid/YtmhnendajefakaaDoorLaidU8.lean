/- What the row's condition gives: utf8's two tables. -/
import Derived.Test.YtmhnendajefakaaDoorRows
import Derived.Test.YtmhnendajefakaaDoorUtfT
import Derived.ProofKit
import Derived.LaidMore
import Derived.Lib.LaidU8T
import Derived.PinnedBridge
import Derived.MakeChecks
namespace Go.Proofs.YtmhnendajefakaaDoor
open Go.ChangeShapes Go.WideShapes Go.ChangeAt Go.RowKit
theorem accept_eq : Rows.laid_unicode_utf8_acceptRanges = Lib.acceptData := by kernel_rfl
theorem Tabs_of_fnExactTextOk {W : World} (h : laidMetH Tryd.prog Rows.fnExactTextOkRow.laid W) : Tabs W := by
  rw [MakeChecks.laidMetH_plain _ _ _ (by kernel_rfl)] at h
  exact utf8Tabs_of_readsT (U8Types.of196 Tryd.laysValid) ⟨by kernel_rfl, by kernel_rfl, by kernel_rfl, by kernel_rfl, by kernel_rfl, by kernel_rfl, by kernel_rfl⟩
    (by rw [← Pinned.utf8First_eq]; exact Lib.laidMet.reads h (.tail _ (.head _))) (by rw [← accept_eq]; exact Lib.laidMet.reads h (.head _))
end Go.Proofs.YtmhnendajefakaaDoor
