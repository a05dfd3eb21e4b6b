/- Where a function of an interface stands, by its name: both sides. -/
import Derived.Test.YtpfkhojhkjaafaaGreatDoorCore
import Derived.Test.YtpfkhojhkjaafaaGreatDoorIdx
import Derived.Test.YtpfkhojhkjaafaaGreatDoorTyM
import Derived.Deep.DeepCutAuto
namespace Go.Proofs.YtpfkhojhkjaafaaGreatDoor
open Go.RowKit

/-- Where the function of this name stands, or none. -/
def fnAt (l : List Fu) (s : ByteArray) : Option Nat := idxS (l.map Fu.name) s
theorem map_name {l : List Fu} {k : Nat} {x : Fu} (h : l[k]? = some x) : (l.map Fu.name)[k]? = some x.name := by rw [List.getElem?_map, h]; rfl
theorem fnAt_lt {l : List Fu} {s : ByteArray} {k : Nat} (h : fnAt l s = some k) : k < l.length := by
  have := idxS_lt h
  simpa using this
set_option maxHeartbeats 4000000 in
set_option maxRecDepth 20000 in
theorem l03In_s (x : Fa) (s : ByteArray) (cs : List Value) (w : World) (hcs : D.Ats w anyB x.ds cs) :
    Calls Tryz.prog 34 #[.agg cs.toArray, .string s] w fun e w' => e = .returned (.int .i64 (idxI (fnAt x.funcs s))) ∧ Below w.heap.size w w' := by
  obtain ⟨A, c, A', c', rfl, -, -, -, -, hfs⟩ := Fa.open_ hcs
  obtain ⟨pk, nm, vr, owns, fs⟩ := x
  change D.At w anyB (rows Fu.ds 7 fs) (.slice A' fs.length c') at hfs
  obtain ⟨-, hn, hc⟩ := rows_bound hfs
  unfold maxLen at hc
  change Calls Tryz.prog 34 #[.agg #[.string pk, .string nm, .string vr, .slice A owns.length c, .slice A' fs.length c'], .string s] w fun e w' => e = .returned (.int .i64 (idxI (fnAt fs s))) ∧ Below w.heap.size w w'
  obtain ⟨w0, hw0⟩ : ∃ w0, w0 = w.alloc (.cells #[.string pk, .string nm, .string vr, .slice A owns.length c, .slice A' fs.length c'] 37) := ⟨_, rfl⟩
  have bA : Box w0 w.heap.size 37 [.string pk, .string nm, .string vr, .slice A owns.length c, .slice A' fs.length c'] := by rw [hw0]; exact Box.new w _ _
  have B0 : Below w.heap.size w w0 := by rw [hw0]; exact (Below.refl _ _).alloc (Nat.le_refl _) _
  have HV := Lib.hid (hfs.below B0)
  have HB := Lib.hid B0
  have kA := bA.cell
  clear hcs hfs B0
  go_enter Tryz.func34, Tryz.ntmps34
  go_upto_region 1 with fail
  rw [← hw0]
  clear hw0 bA
  go_wp2
  go_loop [5] (fun i => ∃ k : Nat, k ≤ fs.length ∧ i = .int .i64 k ∧ IdxTo (fs.map Fu.name) s k) (fun i => fs.length - (intOf i).toNat)
  case atStart => exact ⟨0, Nat.zero_le _, rfl, IdxTo.zero _ _⟩
  case round =>
    obtain ⟨k, hk, rfl, hst⟩ := hrel
    have HST := Lib.hid hst
    clear hst
    by_cases hlt : k < fs.length
    · obtain ⟨u, hu⟩ : ∃ u, fs[k]? = some u := ⟨fs[k], List.getElem?_eq_getElem hlt⟩
      have hk0 : (0 : Int) ≤ (k : Int) := by omega
      have hk1 : (k : Int) < (fs.length : Int) := by omega
      obtain ⟨b, off, u0, u1, u2, u3, u4, u5, u6, e, -, hbl, hat, d0, -⟩ := rows_at7 Fu.len HV.out hu
      subst e
      obtain ⟨e0, e1, e2, e3, e4, e5, e6, e7, e8, e9, e10, e11, exx, -, -⟩ := Fu.open_ hat
      simp only [List.cons.injEq, and_true] at exx
      obtain ⟨rfl, -⟩ := exx
      have HN := Lib.hid (map_name hu)
      clear hu hat
      cases hs : (u.name.toList == s.toList)
      · have HX := Lib.hid (HST.out.next HN.out hs)
        go_wp2
        go_round
        case rel => exact ⟨k + 1, by omega, by go_num, HX.out⟩
        case measure => simp [intOf]; omega
      · have HX := Lib.hid (HST.out.hit HN.out hs)
        go_wp2
        go_ret
        exact ⟨ret_eq (by unfold fnAt; rw [HX.out]; rfl), HB.out⟩
    · obtain rfl : k = fs.length := by omega
      have HX := Lib.hid (show idxS (fs.map Fu.name) s = none from IdxTo.none (by rw [List.length_map]; exact HST.out))
      go_wp2
      go_ret
      exact ⟨ret_eq (by unfold fnAt; rw [HX.out]; rfl), HB.out⟩
theorem fnName_i (x : Fu) (s : ByteArray) (g : Nat) (cs : List Value) (w : World) (hcs : D.Ats w anyB x.ds cs) (hg : Box w g 9 [.string s]) :
    Calls Tryz.prog 87 (#[.agg cs.toArray] ++ #[.pointer (some ⟨g, 0, none⟩)]) w fun e w' => e = .returned (.bool (x.name.toList == s.toList)) ∧ Below w.heap.size w w' := by
  obtain ⟨e0, e1, e2, e3, e4, e5, e6, e7, e8, e9, e10, e11, rfl, -, -⟩ := Fu.open_ hcs
  obtain ⟨nm, ty⟩ := x
  have hg0 : w.cell? ⟨g, 0, none⟩ = some (.string s) := hg.cell 0
  have lg := hg.lt
  clear hcs hg
  change Calls Tryz.prog 87 #[.agg #[.string nm, .slice e0 e1 e2, .int .i64 e3, .string e4, .slice e5 e6 e7, .slice e8 e9 e10, .bool e11], .pointer (some ⟨g, 0, none⟩)] w fun e w' => e = .returned (.bool (nm.toList == s.toList)) ∧ Below w.heap.size w w'
  obtain ⟨R, hR⟩ : ∃ R, (nm.toList == s.toList) = R := ⟨_, rfl⟩
  rw [hR]
  go_enter Tryz.func87, Tryz.ntmps87
  go_wp2
  exact bodyPost_ret (v := .bool R) (by simp [results, Tryz.results87, go_sem]) rfl ⟨rfl, (Below.refl _ _).alloc (Nat.le_refl _) _⟩
end Go.Proofs.YtpfkhojhkjaafaaGreatDoor
