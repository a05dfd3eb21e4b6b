/- Openings: numbers, texts. -/
import Derived.Test.YtofihcahimdbhaaGreatDoorCore
import Derived.Test.YtofihcahimdbhaaGreatDoorTree
import Derived.Test.YtofihcahimdbhaaGreatDoorOpen
namespace Go.Proofs.YtofihcahimdbhaaGreatDoor
open Go.RowKit Go.ChangeShapes Go.WideShapes
theorem cells_int64 : Tryz.prog.cellsOf 2 = 1 := by kernel_rfl
theorem cells_string : Tryz.prog.cellsOf 9 = 1 := by kernel_rfl
theorem cells_bool : Tryz.prog.cellsOf 4 = 1 := by kernel_rfl
theorem cells_strings : Tryz.prog.cellsOf 22 = 1 := by kernel_rfl
theorem str_of_trod {H : Type} {enc : TypeId × Value → H} {w : World} {base : Nat} {spare : Nat → Bool} {held : Bool} (n : Nat) (cs : List Value) (x : DataW H × List MemPlace)
    (h : DataW.trod enc Tryz.prog w base spare held n 9 cs = some x) : ∃ y : ByteArray, D.Ats w anyB (strD y) cs := by
  obtain ⟨s, rfl, _, ws⟩ := DataW.trod_string Tryz.underlying9 h
  exact ⟨s, str_mk ws⟩
end Go.Proofs.YtofihcahimdbhaaGreatDoor
