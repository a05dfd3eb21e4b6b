/- Openings: numbers, texts. -/
import Derived.Test.YtnfkdncfbojiiaaCore
import Derived.Test.YtnfkdncfbojiiaaTree
import Derived.Test.YtnfkdncfbojiiaaOpen
namespace Go.Proofs.Ytnfkdncfbojiiaa
open Go.RowKit Go.ChangeShapes Go.WideShapes
theorem cells_int64 : Try.prog.cellsOf 2 = 1 := by kernel_rfl
theorem cells_string : Try.prog.cellsOf 9 = 1 := by kernel_rfl
theorem cells_bool : Try.prog.cellsOf 4 = 1 := by kernel_rfl
theorem cells_strings : Try.prog.cellsOf 22 = 1 := by kernel_rfl
theorem str_of_trod {H : Type} {enc : TypeId × Value → H} {w : World} {base : Nat} {spare : Nat → Bool} {held : Bool} (n : Nat) (cs : List Value) (x : DataW H × List MemPlace)
    (h : DataW.trod enc Try.prog w base spare held n 9 cs = some x) : ∃ y : ByteArray, D.Ats w anyB (strD y) cs := by
  obtain ⟨s, rfl, _, ws⟩ := DataW.trod_string Try.underlying9 h
  exact ⟨s, str_mk ws⟩
end Go.Proofs.Ytnfkdncfbojiiaa
