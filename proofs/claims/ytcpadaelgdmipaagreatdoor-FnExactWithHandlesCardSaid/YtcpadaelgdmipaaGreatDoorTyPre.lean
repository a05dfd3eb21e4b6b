/- One part of a type fits, its kids too: by the program. -/
import Derived.Test.YtcpadaelgdmipaaGreatDoorTyShapeP
import Derived.Test.YtcpadaelgdmipaaGreatDoorTyKids
import Derived.Test.YtcpadaelgdmipaaGreatDoorTyLab
import Derived.Deep.DeepCutAuto
import Derived.Deep.QuietTactic
import Derived.BigQuiet
namespace Go.Proofs.YtcpadaelgdmipaaGreatDoor
open Go.RowKit Go.Shelf

theorem int_beq (a b : Nat) : ((a : Int) == (b : Int)) = (a == b) := by
  rw [Bool.eq_iff_iff, beq_iff_eq, beq_iff_eq]; omega
theorem inR_len (a : Nat) : inR 1 (a : Int) 6 = (decide (1 ≤ a) && decide (a ≤ 6)) := by
  rw [Bool.eq_iff_iff, inR_iff]; simp; omega
theorem all_any (q : Ty → Bool) (l : List Ty) : l.all q = !(l.any fun y => !q y) := by
  rw [Bool.eq_iff_iff]; simp
theorem nameOk_full {n : ByteArray} (h : nameOk n = true) : n.toList.isEmpty = false := by
  cases he : n.toList.isEmpty
  · rfl
  · have e : n.toList = [] := by simpa using he
    rw [byteList] at e
    have hs : n.size = 0 := by
      show n.data.size = 0
      rw [← Array.length_toList, e]
      rfl
    have := nameOk_end (k := 0) (by omega) (fun i hi => absurd hi (by omega)) (s := n)
    rw [this, hs] at h
    simp at h
theorem mem21 : memK [21] = fun q => q == 21 := by
  funext q; simp [memK]
theorem mem2021 : memK [20, 21] = fun q => inR 20 q 21 := by
  funext q
  rw [Bool.eq_iff_iff, inR_iff]
  simp [memK]
  omega
theorem kinds1 (w : World) (a : Int) (h : -9223372036854775808 ≤ a ∧ a ≤ 9223372036854775807) (t : TypeId) : D.At (w.alloc (.cells #[.int .i64 a] t)) anyB (rows intD 1 [a]) (.slice (some ⟨w.heap.size, 0, none⟩) 1 1) := by
  unfold rows
  simp only [D.At]
  refine ⟨_, _, [.int .i64 a], rfl, by simp, by unfold maxLen; omega, rfl, fun _ => ⟨_, _, rfl, trivial, by simp, fun j u hu => ?_⟩, ?_⟩
  · have := Box.cell (Box.new w t [.int .i64 a]) (0 + j)
    rw [this]
    simpa using hu
  · exact .cons (.mk_int h) .nil
theorem kinds2 (w : World) (a b : Int) (h : -9223372036854775808 ≤ a ∧ a ≤ 9223372036854775807) (h' : -9223372036854775808 ≤ b ∧ b ≤ 9223372036854775807) (t : TypeId) : D.At (w.alloc (.cells #[.int .i64 a, .int .i64 b] t)) anyB (rows intD 1 [a, b]) (.slice (some ⟨w.heap.size, 0, none⟩) 2 2) := by
  unfold rows
  simp only [D.At]
  refine ⟨_, _, [.int .i64 a, .int .i64 b], rfl, by simp, by unfold maxLen; simp, rfl, fun _ => ⟨_, _, rfl, trivial, by simp, fun j u hu => ?_⟩, ?_⟩
  · have := Box.cell (Box.new w t [.int .i64 a, .int .i64 b]) (0 + j)
    rw [this]
    simpa using hu
  · exact .cons (.mk_int h) (.cons (.mk_int h') .nil)
end Go.Proofs.YtcpadaelgdmipaaGreatDoor
