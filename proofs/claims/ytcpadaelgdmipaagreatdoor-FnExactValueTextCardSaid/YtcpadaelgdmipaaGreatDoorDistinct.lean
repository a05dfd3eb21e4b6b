/- The program's distinct: the texts sorted and compacted keep their number. -/
import Derived.Test.YtcpadaelgdmipaaGreatDoorSeq
import Derived.Test.YtcpadaelgdmipaaGreatDoorDistinctP
import Derived.Lib.OwnBridge
namespace Go.Proofs.YtcpadaelgdmipaaGreatDoor
open Go.RowKit Go.Shelf Go.Sort

theorem sorts_wide (m : Nat) : sqSortsIn Fence.wide m :=
  ⟨fun blk off cap ss W hH hblk hsz => callsIn_wide.2 (Tryz.slices_Sort_string blk off cap ss W hH hblk hsz), fun p cap W => callsIn_wide.2 (Tryz.slices_Sort_string_none p cap W)⟩
theorem sqvalues_any (A : Option Addr) (n cap : Nat) (w : World) :
    Calls Tryz.prog 139 #[.slice A n cap] w fun e w' => e = .returned (.func (.func 151) #[] #[.pointer (some ⟨w.heap.size, 0, none⟩)]) ∧ w' = w.alloc (.cells #[.slice A n cap] 25) := by
  go_enter Tryz.func139, Tryz.ntmps139
  go_wp2
  go_ret
  exact ⟨rfl, rfl⟩
theorem sqsortedValues (Bs b off n cap : Nat) (zs : List (List UInt8)) (hn : zs.length = n) (hreach : n ≤ 1000) (w : World) (hBs : Bs < w.heap.size) (hb : b < w.heap.size)
    (hcB : w.cell? ⟨Bs, 0, none⟩ = some (.slice (some ⟨b, off, none⟩) n cap)) (hc : ∀ j, j < n → w.cell? ⟨b, off + j, none⟩ = some (encStr (zs[j]?.getD []))) :
    Calls Tryz.prog 138 #[.func (.func 151) #[] #[.pointer (some ⟨Bs, 0, none⟩)]] w fun e w' => ∃ v, e = .returned v ∧
      w'.ownsRow w.heap.size 9 1 v n ((zs.mergeSort (fun x y => decide (x ≤ y))).map encStr) ∧ Below w.heap.size w w' := by
  subst hn
  refine (callsIn_wide.1 (sqsorted_in Fence.wide 6 trivial trivial trivial trivial rfl (by omega) (sorts_wide _) 151 _ trivial (enters_of Tryz.func151 (by kernel_rfl) rfl)
    (fun ss => ss = zs) zs.length (by unfold maxLen; omega) (by omega) w (sqValues_gives Fence.wide _ trivial rfl (by omega) Bs b off cap zs (by omega) w hBs hb hcB hc))).mono ?_
  rintro e w' ⟨v, ss, rfl, rfl, h1, -, h2⟩
  exact ⟨v, rfl, h1, h2⟩

set_option maxHeartbeats 1000000 in
set_option maxRecDepth 20000 in
theorem distinct_core (b off n cap r : Nat) (q : Bool) (zs T : List (List UInt8)) (hT : (zs.mergeSort fun x y => decide (x ≤ y)) = T) (hr : (Lib.compact T).length = r) (hq : ((r : Int) == (n : Int)) = q) (hn : zs.length = n) (h0 : 0 < n) (hreach : n ≤ 1000) (w : World) (hb : b < w.heap.size)
    (hc : ∀ j, j < n → w.cell? ⟨b, off + j, none⟩ = some (encStr (zs[j]?.getD []))) :
    Calls Tryz.prog 120 #[.slice (some ⟨b, off, none⟩) n cap] w fun e w' => e = .returned (.bool q) ∧ Below w.heap.size w w' := by
  have HT := Lib.hid (show T.length = n from by rw [← hT, List.length_mergeSort, hn])
  have HS := Lib.hid hT
  have HR := Lib.hid hr
  have HC := Lib.hid hc
  have HZ := Lib.hid hn
  clear hc hn hT hr
  go_enter Tryz.func120, Tryz.ntmps120
  go_wp2_with fail
  refine (sqvalues_any _ _ _ _).mono ?_
  rintro e w1 ⟨rfl, rfl⟩
  go_wp2_with fail
  refine (sqsortedValues w.heap.size b off n cap zs HZ.out hreach _ (by simp) (by simp; omega) (Box.cell (cs := [_]) (Box.new w _ [.slice (some ⟨b, off, none⟩) n cap]) 0)
    (fun j hj => (((Below.refl _ w).alloc (Nat.le_refl _) _).cell (p := ⟨b, off + j, none⟩) hb).trans (HC.out j hj))).mono ?_
  rintro e w2 ⟨v, rfl, hown, hbel⟩
  have Bw : Below w.heap.size w w2 := ((Below.refl _ w).alloc (Nat.le_refl _) _).trans (hbel.mono (by simp))
  have hown' : w2.ownsRow w.heap.size 9 1 v n ((zs.mergeSort fun x y => decide (x ≤ y)).map encStr) := by
    refine ⟨hown.1, ?_⟩
    rcases hown.2 with h | ⟨g, c, cur, e1, e2, e3⟩
    · exact .inl h
    · exact .inr ⟨g, c, cur, e1, Nat.le_trans (by simp) e2, e3⟩
  clear hbel hown
  rw [HS.out] at hown'
  rcases hown'.2 with ⟨rfl, hz⟩ | ⟨g, cap', cur, rfl, hbase, hgb, r1, r2, r3, r4⟩
  · omega
  · have HH := Lib.hid (show Holds encStr w2 g 0 T.toArray from holds_of_block hgb (by rw [HT.out]; simpa using r4))
    have hcap : n ≤ cap' := by omega
    clear hgb r1 r2 r3 r4 hown'
    have cC : Calls Tryz.prog 137 #[.slice (some ⟨g, 0, none⟩) n cap'] w2 fun e w' => e = .returned (.slice (some ⟨g, 0, none⟩) r cap') ∧ Below w.heap.size w w' := by
      have := Tryz.slices_Compact_string g 0 cap' T w2 HH.out (by have := HT.out; omega) (by have := HT.out; omega)
      rw [HT.out, HR.out] at this
      refine this.mono ?_
      rintro e w3 ⟨rfl, q, rfl⟩
      exact ⟨rfl, Lib.below_putRow Bw hbase⟩
    have CC := Lib.hid cC
    clear cC
    go_wp2_with fail
    refine CC.out.mono ?_
    rintro e w3 ⟨rfl, hb3⟩
    cases q
    all_goals
      have hq' := hq
      simp only [beq_iff_eq, beq_eq_false_iff_ne, ne_eq] at hq'
      go_wp2
      go_ret
      exact ⟨rfl, hb3⟩
theorem strs_cells {w : World} {S : Nat → Prop} {l : List ByteArray} {A : Option Addr} {cap : Nat} (h : D.At w S (strs l) (.slice A l.length cap)) (h0 : 0 < l.length) :
    ∃ b off, A = some ⟨b, off, none⟩ ∧ b < w.heap.size ∧ ∀ j, j < l.length → w.cell? ⟨b, off + j, none⟩ = some (encStr ((l.map (·.data.toList))[j]?.getD [])) := by
  obtain ⟨b, off, u0, rfl, -, hb, -, -⟩ := rows_at1 strD_length h (List.getElem?_eq_getElem h0)
  refine ⟨b, off, rfl, hb, fun j hj => ?_⟩
  obtain ⟨b', off', u, hA, -, -, hu, hcell⟩ := rows_at1 strD_length h (List.getElem?_eq_getElem hj)
  obtain ⟨rfl, rfl⟩ : b = b' ∧ off = off' := by simpa using hA
  obtain ⟨rfl, -⟩ := str_open hu
  rw [hcell]
  simp [hj]
theorem distinct_i (l : List ByteArray) (A : Option Addr) (cap : Nat) (w : World) (h : D.At w anyB (strs l) (.slice A l.length cap)) (h0 : 0 < l.length) (h16 : l.length ≤ 1000) :
    Calls Tryz.prog 120 #[.slice A l.length cap] w fun e w' => e = .returned (.bool (nodupS l)) ∧ Below w.heap.size w w' := by
  obtain ⟨b, off, rfl, hb, hc⟩ := strs_cells h h0
  have := distinct_core b off l.length cap _ _ (l.map (·.data.toList)) _ rfl rfl rfl (by simp) h0 h16 w hb hc
  have e : (((Lib.compact ((l.map (·.data.toList)).mergeSort fun x y => decide (x ≤ y))).length : Int) == (l.length : Int)) = nodupS l := by
    rw [Bool.eq_iff_iff, beq_iff_eq, distinct_law]
  rw [e] at this
  exact this
end Go.Proofs.YtcpadaelgdmipaaGreatDoor
