/- NumRange: what the program's and the reference's function compute, and the law. -/
import Derived.Test.YtcpadaelgdmipaaGreatDoorCore
namespace Go.Proofs.YtcpadaelgdmipaaGreatDoor
open Go.RowKit

/-- The kinds that have a range: their number, the least, the greatest. -/
def numRange (k : Int) : Int × Int × Bool :=
  if k = 3 then (0, 255, true) else if k = 4 then (-128, 127, true) else if k = 5 then (0, 65535, true) else if k = 6 then (-32768, 32767, true) else if k = 7 then (0, 4294967295, true)
  else if k = 8 then (-2147483648, 2147483647, true) else if k = 9 then (-9223372036854775808, 9223372036854775807, true) else (0, 0, false)
def RetRange (k : Int) (w : World) (e : Ending) (w' : World) : Prop := e = .returned (.tuple #[.int .i64 (numRange k).1, .int .i64 (numRange k).2.1, .bool (numRange k).2.2]) ∧ w = w'

set_option maxRecDepth 20000 in
theorem numRange_s (k : Int) (w : World) : Calls Tryz.prog 81 #[.int .i64 k] w (RetRange k w) := by
  by_cases h3 : k = 3
  · subst h3; go_enter Tryz.func81, Tryz.ntmps81; go_wp2; go_ret3; exact ⟨rfl, rfl⟩
  by_cases h4 : k = 4
  · subst h4; go_enter Tryz.func81, Tryz.ntmps81; go_wp2; go_ret3; exact ⟨rfl, rfl⟩
  by_cases h5 : k = 5
  · subst h5; go_enter Tryz.func81, Tryz.ntmps81; go_wp2; go_ret3; exact ⟨rfl, rfl⟩
  by_cases h6 : k = 6
  · subst h6; go_enter Tryz.func81, Tryz.ntmps81; go_wp2; go_ret3; exact ⟨rfl, rfl⟩
  by_cases h7 : k = 7
  · subst h7; go_enter Tryz.func81, Tryz.ntmps81; go_wp2; go_ret3; exact ⟨rfl, rfl⟩
  by_cases h8 : k = 8
  · subst h8; go_enter Tryz.func81, Tryz.ntmps81; go_wp2; go_ret3; exact ⟨rfl, rfl⟩
  by_cases h9 : k = 9
  · subst h9; go_enter Tryz.func81, Tryz.ntmps81; go_wp2; go_ret3; exact ⟨rfl, rfl⟩
  have e : numRange k = (0, 0, false) := by simp [numRange, h3, h4, h5, h6, h7, h8, h9]
  have E := Lib.hid e
  have g3 : (k == 3) = false := beq_eq_false_iff_ne.2 h3
  have g4 : (k == 4) = false := beq_eq_false_iff_ne.2 h4
  have g5 : (k == 5) = false := beq_eq_false_iff_ne.2 h5
  have g6 : (k == 6) = false := beq_eq_false_iff_ne.2 h6
  have g7 : (k == 7) = false := beq_eq_false_iff_ne.2 h7
  have g8 : (k == 8) = false := beq_eq_false_iff_ne.2 h8
  have g9 : (k == 9) = false := beq_eq_false_iff_ne.2 h9
  clear e h3 h4 h5 h6 h7 h8 h9
  go_enter Tryz.func81, Tryz.ntmps81
  go_wp2
  go_ret3
  exact ⟨by rw [E.out]; rfl, rfl⟩
set_option maxRecDepth 20000 in
theorem numRange_i0 (k : Int) (w : World) : Calls Tryz.prog 107 #[.int .i64 k] w (RetRange k w) := by
  by_cases h3 : k = 3
  · subst h3; go_enter Tryz.func107, Tryz.ntmps107; go_wp2; go_ret3; exact ⟨rfl, rfl⟩
  by_cases h4 : k = 4
  · subst h4; go_enter Tryz.func107, Tryz.ntmps107; go_wp2; go_ret3; exact ⟨rfl, rfl⟩
  by_cases h5 : k = 5
  · subst h5; go_enter Tryz.func107, Tryz.ntmps107; go_wp2; go_ret3; exact ⟨rfl, rfl⟩
  by_cases h6 : k = 6
  · subst h6; go_enter Tryz.func107, Tryz.ntmps107; go_wp2; go_ret3; exact ⟨rfl, rfl⟩
  by_cases h7 : k = 7
  · subst h7; go_enter Tryz.func107, Tryz.ntmps107; go_wp2; go_ret3; exact ⟨rfl, rfl⟩
  by_cases h8 : k = 8
  · subst h8; go_enter Tryz.func107, Tryz.ntmps107; go_wp2; go_ret3; exact ⟨rfl, rfl⟩
  by_cases h9 : k = 9
  · subst h9; go_enter Tryz.func107, Tryz.ntmps107; go_wp2; go_ret3; exact ⟨rfl, rfl⟩
  have e : numRange k = (0, 0, false) := by simp [numRange, h3, h4, h5, h6, h7, h8, h9]
  have E := Lib.hid e
  have g3 : (k == 3) = false := beq_eq_false_iff_ne.2 h3
  have g4 : (k == 4) = false := beq_eq_false_iff_ne.2 h4
  have g5 : (k == 5) = false := beq_eq_false_iff_ne.2 h5
  have g6 : (k == 6) = false := beq_eq_false_iff_ne.2 h6
  have g7 : (k == 7) = false := beq_eq_false_iff_ne.2 h7
  have g8 : (k == 8) = false := beq_eq_false_iff_ne.2 h8
  have g9 : (k == 9) = false := beq_eq_false_iff_ne.2 h9
  clear e h3 h4 h5 h6 h7 h8 h9
  go_enter Tryz.func107, Tryz.ntmps107
  go_wp2
  go_ret3
  exact ⟨by rw [E.out]; rfl, rfl⟩
end Go.Proofs.YtcpadaelgdmipaaGreatDoor
