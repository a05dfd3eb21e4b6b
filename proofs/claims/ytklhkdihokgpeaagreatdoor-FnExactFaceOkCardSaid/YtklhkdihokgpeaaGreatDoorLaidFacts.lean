/- What the row's condition gives: what the listed variables hold. -/
import Derived.Test.YtklhkdihokgpeaaGreatDoorRows
import Derived.Test.YtklhkdihokgpeaaGreatDoorVer
import Derived.ProofKit
import Derived.LaidSub
import Derived.LaidMore
import Derived.Lib.LaidTab
namespace Go.Proofs.YtklhkdihokgpeaaGreatDoor
open Go.ChangeShapes Go.WideShapes Go.ChangeAt Go.RowKit

theorem Tab10_of (l : List (String × DataW Unit)) (hl : l.filter (fun x => x.1 == "internal/strconv.uint64pow10") = [("internal/strconv.uint64pow10", Lib.tabData .u64 Lib.pow10Tab)]) {W : World} (h : laidMetH Tryz.prog l W) : Tab10 W := by
  have h1 := laidMetH.filter (fun x => x.1 == "internal/strconv.uint64pow10") h
  rw [hl, MakeChecks.laidMetH_plain _ _ _ (by kernel_rfl)] at h1
  exact Lib.tabIs_of_head (g := 5) (by kernel_rfl) (by kernel_rfl) Tryz.underlying227 Tryz.underlying184 (by kernel_rfl) (by kernel_rfl) h1
end Go.Proofs.YtklhkdihokgpeaaGreatDoor
