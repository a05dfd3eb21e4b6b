/- The program's hasKind. -/
import Derived.Test.YtcpadaelgdmipaaGreatDoorTyHas
import Derived.Shelf.Abstract
import Derived.Shelf.AbstractIn
namespace Go.Proofs.YtcpadaelgdmipaaGreatDoor
open Go.RowKit Go.Shelf

def intD (k : Int) : List D := [.int k]
theorem intD_length (k : Int) : (intD k).length = 1 := rfl
def memK (ks : List Int) (q : Int) : Bool := ks.any fun a => q == a

set_option maxHeartbeats 1000000 in
set_option maxRecDepth 20000 in
theorem index_int (ks : List Int) (q : Int) (A : Option Addr) (cap : Nat) (w : World) (hv : D.At w anyB (rows intD 1 ks) (.slice A ks.length cap)) :
    Calls Tryz.prog 141 #[.slice A ks.length cap, .int .i64 q] w fun e w' => (∃ r : Int, e = .returned (.int .i64 r) ∧ decide (0 ≤ r) = memK ks q) ∧ Below w.heap.size w w' := by
  obtain ⟨-, hn, hc⟩ := rows_bound hv
  unfold maxLen at hc
  have HV := Lib.hid hv
  clear hv
  go_enter Tryz.func141, Tryz.ntmps141
  go_wp2
  go_loopw [5, 8] (fun _ i wr => ∃ k : Nat, k ≤ ks.length ∧ i = .int .i64 k ∧ NoneTo (fun a => q == a) ks k ∧ Below w.heap.size w wr) (fun _ i _ => ks.length - (intOf i).toNat)
  case atStart => exact ⟨0, Nat.zero_le _, rfl, NoneTo.zero _ _, Below.refl _ _⟩
  case round =>
    obtain ⟨k, hk, rfl, hst, hb⟩ := hrel
    by_cases hlt : k < ks.length
    · obtain ⟨x, hx⟩ : ∃ x, ks[k]? = some x := ⟨ks[k], List.getElem?_eq_getElem hlt⟩
      have hk0 : (0 : Int) ≤ (k : Int) := by omega
      have hk1 : (k : Int) < (ks.length : Int) := by omega
      obtain ⟨b, off, u0, rfl, -, hbl, hat, c0⟩ := rows_at1 intD_length HV.out hx
      replace c0 := (hb.cell (p := ⟨b, off + k, none⟩) hbl).trans c0
      have HN := Lib.hid (And.intro hx hst)
      obtain ⟨vs, e3, -, -⟩ := D.Ats.int_cell (r := []) hat
      simp only [List.cons.injEq] at e3
      obtain ⟨rfl, -⟩ := e3
      clear hx hst hat
      cases hs : (q == x)
      · have HB := Lib.hid (HN.out.2.next HN.out.1 hs)
        go_wp2
        go_roundw
        case rel => exact ⟨k + 1, by omega, by go_num, HB.out, hb⟩
        case measure => simp [intOf]; omega
      · have HB := Lib.hid (any_bad (p := fun a => q == a) HN.out.1 hs)
        go_wp2
        go_ret
        exact ⟨⟨_, rfl, by unfold memK; rw [HB.out]; simp⟩, hb⟩
    · obtain rfl : k = ks.length := by omega
      have HB := Lib.hid hst.end_
      clear hst
      go_wp2
      go_ret
      exact ⟨⟨-1, rfl, by unfold memK; rw [HB.out]; rfl⟩, hb⟩
set_option maxRecDepth 20000 in
theorem contains_int (ks : List Int) (q : Int) (A : Option Addr) (cap : Nat) (w : World) (hv : D.At w anyB (rows intD 1 ks) (.slice A ks.length cap)) :
    Calls Tryz.prog 123 #[.slice A ks.length cap, .int .i64 q] w fun e w' => e = .returned (.bool (memK ks q)) ∧ Below w.heap.size w w' := by
  have H := Lib.hid (index_int ks q A cap w hv)
  clear hv
  go_enter Tryz.func123, Tryz.ntmps123
  go_wp2_with fail
  refine H.out.mono ?_
  rintro e w1 ⟨⟨r, rfl, hr⟩, hb⟩
  have HR := Lib.hid hr
  clear hr
  by_cases h0 : 0 ≤ r
  all_goals
    go_wp2
    go_ret
    exact ⟨ret_eq (by rw [← HR.out]; simp [h0]), hb⟩

set_option maxHeartbeats 1000000 in
set_option maxRecDepth 20000 in
theorem hasKind_clo (ks : List Int) (g : Nat) (A : Option Addr) (cap : Nat) (x : Ty) (ih : ∀ (cs : List Value) (w : World), D.At w anyB (rows intD 1 ks) (.slice A ks.length cap) → D.Ats w anyB x.ds cs →
      Calls Tryz.prog 106 #[.agg cs.toArray, .slice A ks.length cap] w fun e w' => e = .returned (.bool (x.has (memK ks))) ∧ Below w.heap.size w w') :
    IsPr 124 Ty.ds (Ty.has (memK ks)) #[.pointer (some ⟨g, 0, none⟩)] (fun w => Box w g 29 [.slice A ks.length cap] ∧ D.At w anyB (rows intD 1 ks) (.slice A ks.length cap)) x := by
  intro cs w hC hcs
  obtain ⟨k, n, A0, m0, c0, A0', m0', c0', rfl⟩ := Ty.form hcs
  have HA := Lib.hid (And.intro hC.2 hcs)
  have HI := Lib.hid ih
  have hl := hC.1.lt
  have c := hC.1.cell
  clear hcs ih hC
  go_enter Tryz.func124, Tryz.ntmps124
  go_wp2_with fail
  refine (HI.out _ _ (HA.out.1.below ((Below.refl _ _).alloc (Nat.le_refl _) _)) (HA.out.2.below ((Below.refl _ _).alloc (Nat.le_refl _) _))).mono ?_
  rintro e w1 ⟨rfl, hb1⟩
  obtain ⟨B1, -⟩ := box1 (cA := [_, _, _, _]) hb1
  clear hb1 c
  go_wp2
  go_ret
  exact ⟨rfl, B1⟩

set_option maxHeartbeats 1000000 in
set_option maxRecDepth 20000 in
theorem hasKind_i (ks : List Int) (x : Ty) : ∀ (cs : List Value) (A : Option Addr) (cap : Nat) (w : World), D.At w anyB (rows intD 1 ks) (.slice A ks.length cap) → D.Ats w anyB x.ds cs →
    Calls Tryz.prog 106 #[.agg cs.toArray, .slice A ks.length cap] w fun e w' => e = .returned (.bool (x.has (memK ks))) ∧ Below w.heap.size w w' := by
  induction x using Ty.ind with
  | h k n l kids ih =>
    intro cs A cap w hks hcs
    obtain ⟨A0, cap0, B, cap2, rfl, -, -, hl, hk⟩ := Ty.open_ hcs
    have HV := Lib.hid hk
    have HK := Lib.hid hks
    have HI := Lib.hid ih
    have HE := Lib.hid (Ty.has_mk (memK ks) k n l kids)
    clear hcs hl hk ih hks
    go_enter Tryz.func106, Tryz.ntmps106
    cases h1 : memK ks k
    · have E1 := Lib.hid h1
      go_wp2_with fail
      refine (contains_int ks k _ _ _ (HK.out.below (by repeat (first | exact Below.refl _ _ | refine Below.alloc ?_ (by first | omega | (simp <;> omega)) _)))).mono ?_
      rintro e w1 ⟨rfl, hb1⟩
      rw [h1]
      obtain ⟨B1, bA, bB⟩ := box2 (cA := [_, _, _, _]) (cB := [_]) hb1
      have c := bA.cell
      clear hb1 h1
      go_wp2_with fail
      refine (containsFunc1 124 (Ty.has (memK ks)) kids (w.heap.size + 1) _ (rows intD 1 ks) (fun x hx => hasKind_clo ks _ A cap x (fun cs w => HI.out x hx cs A cap w)) (enters_of Tryz.func124 (by kernel_rfl) rfl) _ _ _ ⟨bB, HK.out.below B1⟩ (HV.out.below B1)).mono ?_
      rintro e w2 ⟨rfl, hb2⟩
      have B2 := B1.trans (hb2.mono B1.size)
      clear c hb2
      go_wp2
      go_ret
      exact ⟨ret_eq (by rw [HE.out, E1.out]; rfl), B2⟩
    · have E1 := Lib.hid h1
      go_wp2_with fail
      refine (contains_int ks k _ _ _ (HK.out.below (by repeat (first | exact Below.refl _ _ | refine Below.alloc ?_ (by first | omega | (simp <;> omega)) _)))).mono ?_
      rintro e w1 ⟨rfl, hb1⟩
      rw [h1]
      obtain ⟨B1, bA, bB⟩ := box2 (cA := [_, _, _, _]) (cB := [_]) hb1
      clear hb1 h1
      go_wp2
      go_ret
      exact ⟨ret_eq (by rw [HE.out, E1.out]; rfl), B1⟩
end Go.Proofs.YtcpadaelgdmipaaGreatDoor
