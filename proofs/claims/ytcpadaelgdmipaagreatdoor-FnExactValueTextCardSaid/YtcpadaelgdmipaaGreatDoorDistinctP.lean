/- Sorted and compacted a list keeps its length just when no two of its texts are the same. No program in sight. -/
import Derived.Test.YtcpadaelgdmipaaGreatDoorTyPlain
import Derived.Lib.SlicesCompact
import Derived.Sort.KeysCollected
namespace Go.Proofs.YtcpadaelgdmipaaGreatDoor
open Go.RowKit

theorem byteList (a : ByteArray) : a.toList = a.data.toList := by rw [ByteArray.toList_eq]
theorem sameS_iff (a b : ByteArray) : sameS a b = true ↔ a.data.toList = b.data.toList := by
  rw [sameS, byteList, byteList]; exact beq_iff_eq
theorem nodupS_iff (l : List ByteArray) : nodupS l = true ↔ (l.map (·.data.toList)).Nodup := by
  induction l with
  | nil => simp [nodupS]
  | cons x r ih =>
    rw [nodupS, Bool.and_eq_true, ih, List.map_cons, List.nodup_cons]
    refine and_congr_left (fun _ => ?_)
    rw [Bool.not_eq_true', ← Bool.not_eq_true, List.any_eq_true]
    simp only [sameS_iff, List.mem_map]
    refine not_congr ⟨fun ⟨y, h1, h2⟩ => ⟨y, h1, h2.symm⟩, fun ⟨y, h1, h2⟩ => ⟨y, h1, h2.symm⟩⟩
theorem compact_len (zs : List (List UInt8)) : (Lib.compact zs).length = zs.length ↔ ∀ j, j < zs.length → Lib.keeps zs.toArray j = true := by
  unfold Lib.compact Lib.compactUpTo
  rw [List.length_map]
  have h : (List.range zs.length).length = zs.length := List.length_range
  constructor
  · intro e j hj
    exact (List.length_filter_eq_length_iff.1 (e.trans h.symm)) j (List.mem_range.2 hj)
  · intro hk
    rw [List.filter_eq_self.2 (fun j hj => hk j (List.mem_range.1 hj)), h]
theorem compact_sorted (ss : List (List UInt8)) : (Lib.compact (ss.mergeSort fun x y => decide (x ≤ y))).length = ss.length ↔ ss.Nodup := by
  have tr : ∀ a b c : List UInt8, decide (a ≤ b) = true → decide (b ≤ c) = true → decide (a ≤ c) = true := fun a b c h1 h2 => by simp only [decide_eq_true_eq] at *; exact List.le_trans h1 h2
  have to : ∀ a b : List UInt8, (decide (a ≤ b) || decide (b ≤ a)) = true := fun a b => by simp only [Bool.or_eq_true, decide_eq_true_eq]; exact List.le_total a b
  have hp := List.mergeSort_perm ss (fun x y => decide (x ≤ y))
  have hs := List.pairwise_mergeSort tr to ss
  rw [← hp.length_eq, compact_len, ← hp.nodup_iff]
  generalize (ss.mergeSort fun x y => decide (x ≤ y)) = t at hs
  rw [List.pairwise_iff_getElem] at hs
  unfold List.Nodup
  rw [List.pairwise_iff_getElem]
  constructor
  · intro hk i j hi hj hij he
    have h1 : t[j - 1] = t[j] := by
      have a1 : t[j - 1] ≤ t[j] := by simpa using hs (j - 1) j (by omega) hj (by omega)
      have a2 : t[i] ≤ t[j - 1] := by
        by_cases e : i = j - 1
        · subst e; exact List.le_refl _
        · simpa using hs i (j - 1) hi (by omega) (by omega)
      rw [he] at a2
      exact List.le_antisymm a1 a2
    have := hk j hj
    simp only [Lib.keeps, decide_eq_true_eq] at this
    rcases this with h0 | h0
    · omega
    · apply h0
      rw [getElem!_pos t.toArray j (by simpa using hj), getElem!_pos t.toArray (j - 1) (by simp; omega)]
      simpa using h1.symm
  · intro hn j hj
    simp only [Lib.keeps, decide_eq_true_eq]
    by_cases h0 : j = 0
    · exact .inl h0
    · refine .inr (fun e => hn (j - 1) j (by omega) hj (by omega) ?_)
      rw [getElem!_pos t.toArray j (by simpa using hj), getElem!_pos t.toArray (j - 1) (by simp; omega)] at e
      simpa using e.symm
theorem distinct_law (l : List ByteArray) : ((Lib.compact ((l.map (·.data.toList)).mergeSort fun x y => decide (x ≤ y))).length : Int) = (l.length : Int) ↔ nodupS l = true := by
  rw [nodupS_iff, ← compact_sorted, List.length_map]
  omega
end Go.Proofs.YtcpadaelgdmipaaGreatDoor
