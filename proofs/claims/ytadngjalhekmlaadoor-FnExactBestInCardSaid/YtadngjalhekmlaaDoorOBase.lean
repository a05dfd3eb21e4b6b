/- Openings: numbers, texts. -/
import Derived.Test.YtadngjalhekmlaaDoorCore
import Derived.Test.YtadngjalhekmlaaDoorTree
import Derived.Test.YtadngjalhekmlaaDoorOpen
namespace Go.Proofs.YtadngjalhekmlaaDoor
open Go.RowKit Go.ChangeShapes Go.WideShapes
theorem cells_int64 : Tryd.prog.cellsOf 2 = 1 := by kernel_rfl
theorem cells_string : Tryd.prog.cellsOf 9 = 1 := by kernel_rfl
theorem cells_bool : Tryd.prog.cellsOf 4 = 1 := by kernel_rfl
theorem cells_strings : Tryd.prog.cellsOf 35 = 1 := by kernel_rfl
theorem str_of_trod {H : Type} {enc : TypeId × Value → H} {w : World} {base : Nat} {spare : Nat → Bool} {held : Bool} (n : Nat) (cs : List Value) (x : DataW H × List MemPlace)
    (h : DataW.trod enc Tryd.prog w base spare held n 9 cs = some x) : ∃ y : ByteArray, D.Ats w anyB (strD y) cs := by
  obtain ⟨s, rfl, _, ws⟩ := DataW.trod_string Tryd.underlying9 h
  exact ⟨s, str_mk ws⟩
end Go.Proofs.YtadngjalhekmlaaDoor
