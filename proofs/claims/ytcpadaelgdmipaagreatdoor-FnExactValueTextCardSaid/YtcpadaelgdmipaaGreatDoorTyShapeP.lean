/- A part's kind, name, labels and kids fit: case by case. No program in sight. -/
import Derived.Test.YtcpadaelgdmipaaGreatDoorTyPlain
namespace Go.Proofs.YtcpadaelgdmipaaGreatDoor
open Go.RowKit

/-- The three tests ahead of the kids. -/
def headOk (k : Int) (n : ByteArray) (l : List ByteArray) : Bool := (isNamed k == !n.toList.isEmpty) && ((!isNamed k || nameOk n) && ((isLabelled k == decide (0 < l.length)) && (!isLabelled k || labelsOk l)))
theorem shape_mk (k : Int) (n : ByteArray) (l : List ByteArray) (kids : List Ty) : shape (.mk k n l kids) = (headOk k n l && kidsFit k l.length kids) := by
  simp only [shape, headOk, Bool.and_assoc]
theorem hass21 : (fun q : Int => inR 21 q 21) = fun q => q == 21 := by
  funext q
  rw [Bool.eq_iff_iff, inR_iff, beq_iff_eq]
  omega
theorem kf1 {k : Int} {m : Nat} {kids : List Ty} (h : k = 12 ∨ k = 13) : kidsFit k m kids = ((kids.length == 1) && !(kids.any isU)) := by
  unfold kidsFit; rw [if_pos h]
theorem kf2 {k : Int} {m : Nat} {kids : List Ty} (h : k = 22 ∨ k = 23) : kidsFit k m kids = ((kids.length == 1) && !(kids.any (Ty.has fun q => q == 21))) := by
  unfold kidsFit; rw [if_neg (by omega), if_pos h]
theorem kf3 {k : Int} {m : Nat} {kids : List Ty} (h : k = 14) : kidsFit k m kids = (kids.length == 2) := by
  unfold kidsFit; rw [if_neg (by omega), if_neg (by omega), if_pos h]
theorem kf4 {k : Int} {m : Nat} {kids : List Ty} (h : k = 15) : kidsFit k m kids = ((decide (1 ≤ kids.length) && decide (kids.length ≤ 6)) && !(kids.any isU)) := by
  unfold kidsFit; rw [if_neg (by omega), if_neg (by omega), if_neg (by omega), if_pos h]
theorem kf5 {k : Int} {m : Nat} {kids : List Ty} (h : k = 16) : kidsFit k m kids = ((kids.length == m) && !(kids.any isU)) := by
  unfold kidsFit; rw [if_neg (by omega), if_neg (by omega), if_neg (by omega), if_neg (by omega), if_pos h]
theorem kf6 {k : Int} {m : Nat} {kids : List Ty} (h : k = 17) : kidsFit k m kids = (kids.length == m) := by
  unfold kidsFit; rw [if_neg (by omega), if_neg (by omega), if_neg (by omega), if_neg (by omega), if_neg (by omega), if_pos h]
theorem kf7 {k : Int} {m : Nat} {kids : List Ty} (h : ¬ (k = 12 ∨ k = 13 ∨ k = 22 ∨ k = 23 ∨ k = 14 ∨ k = 15 ∨ k = 16 ∨ k = 17)) : kidsFit k m kids = (inR 1 k 23 && (kids.length == 0)) := by
  unfold kidsFit; rw [if_neg (by omega), if_neg (by omega), if_neg (by omega), if_neg (by omega), if_neg (by omega), if_neg (by omega)]
end Go.Proofs.YtcpadaelgdmipaaGreatDoor
