/- Which kinds a type has: by the reference and by the program. -/
import Derived.Test.YtcpadaelgdmipaaGreatDoorTyPlain
import Derived.Test.YtcpadaelgdmipaaGreatDoorNums
namespace Go.Proofs.YtcpadaelgdmipaaGreatDoor
open Go.RowKit

set_option maxHeartbeats 2000000 in
set_option maxRecDepth 20000 in
theorem l03Has_s (lo hi : Int) (x : Ty) : ∀ (cs : List Value) (w : World), D.Ats w anyB x.ds cs →
    Calls Tryz.prog 136 #[.agg cs.toArray, .int .i64 lo, .int .i64 hi] w fun e w' => e = .returned (.bool (x.has fun q => inR lo q hi)) ∧ Below w.heap.size w w' := by
  induction x using Ty.ind with
  | h k n l kids ih =>
    intro cs w hcs
    obtain ⟨A, cap, B, cap2, rfl, -, -, hl, hk⟩ := Ty.open_ hcs
    obtain ⟨-, hn, hc⟩ := rows_bound hk
    unfold maxLen at hc
    have HV := Lib.hid hk
    have HI := Lib.hid ih
    have HE := Lib.hid (Ty.has_mk (fun q => inR lo q hi) k n l kids)
    clear hcs hl hk ih
    cases h1 : inR lo k hi
    · have E1 := Lib.hid h1
      go_enter Tryz.func136, Tryz.ntmps136
      go_wp2_with fail
      refine (l00In_any _ _ _ _).mono ?_
      rintro e w1 ⟨rfl, rfl⟩
      rw [h1]
      clear h1
      go_wp2
      go_loopw [7] (fun i wr => ∃ q : Nat, q ≤ kids.length ∧ i = .int .i64 q ∧ NoneTo (Ty.has fun q => inR lo q hi) kids q ∧ Below (w.alloc (.cells #[.int .i64 k, .string n, .slice A l.length cap, .slice B kids.length cap2] 40)).heap.size (w.alloc (.cells #[.int .i64 k, .string n, .slice A l.length cap, .slice B kids.length cap2] 40)) wr) (fun i _ => kids.length - (intOf i).toNat)
      case atStart => exact ⟨0, Nat.zero_le _, rfl, NoneTo.zero _ _, Below.refl _ _⟩
      case round =>
        obtain ⟨q, hq, rfl, hst, hb⟩ := hrel
        obtain ⟨Bw, bA⟩ := box1 (cA := [_, _, _, _]) hb
        have c := bA.cell
        by_cases hlt : q < kids.length
        · skip
          obtain ⟨x, hx⟩ : ∃ x, kids[q]? = some x := ⟨kids[q], List.getElem?_eq_getElem hlt⟩
          have hk0 : (0 : Int) ≤ (q : Int) := by omega
          have hk1 : (q : Int) < (kids.length : Int) := by omega
          obtain ⟨b, off, u0, u1, u2, u3, rfl, -, hbl, hat, c0, c1, c2, c3⟩ := rows_at4 Ty.len HV.out hx
          replace c0 := (Bw.cell (p := ⟨b, off + q * 4, none⟩) hbl).trans c0
          replace c1 := (Bw.cell (p := ⟨b, off + q * 4 + 1, none⟩) hbl).trans c1
          replace c2 := (Bw.cell (p := ⟨b, off + q * 4 + 2, none⟩) hbl).trans c2
          replace c3 := (Bw.cell (p := ⟨b, off + q * 4 + 3, none⟩) hbl).trans c3
          have HN := Lib.hid (And.intro hx hst)
          have HX := Lib.hid (HI.out x (List.mem_of_getElem? hx))
          clear hx hst
          go_wp2_with fail
          refine (HX.out _ _ (hat.below Bw)).mono ?_
          rintro e w2 ⟨rfl, hb2⟩
          have hb3 := hb.trans (hb2.mono hb.size)
          obtain ⟨Bw3, -⟩ := box1 (cA := [_, _, _, _]) hb3
          clear c0 c1 c2 c3 hb2 hb hat Bw c
          cases hs : x.has fun q => inR lo q hi
          · have HB := Lib.hid (HN.out.2.next HN.out.1 hs)
            clear hs
            go_wp2
            go_roundw
            case rel => exact ⟨q + 1, by omega, by go_num, HB.out, hb3⟩
            case measure => simp [intOf]; omega
          · have HB := Lib.hid (any_bad HN.out.1 hs)
            clear hs
            go_wp2
            go_ret
            exact ⟨ret_eq (by rw [HE.out, E1.out, HB.out]; rfl), Bw3⟩
        · obtain rfl : q = kids.length := by omega
          have HB := Lib.hid hst.end_
          clear hst
          go_wp2
          go_ret
          exact ⟨ret_eq (by rw [HE.out, E1.out, HB.out]; rfl), Bw⟩
    · have E1 := Lib.hid h1
      go_enter Tryz.func136, Tryz.ntmps136
      go_wp2_with fail
      refine (l00In_any _ _ _ _).mono ?_
      rintro e w1 ⟨rfl, rfl⟩
      rw [h1]
      clear h1
      go_wp2
      go_ret
      exact ⟨ret_eq (by rw [HE.out, E1.out]; rfl), (by repeat (first | exact Below.refl _ _ | refine Below.alloc ?_ (by first | omega | (simp <;> omega)) _))⟩

set_option maxHeartbeats 2000000 in
set_option maxRecDepth 20000 in
theorem l03Units_s (k : Int) (n : ByteArray) (l : List ByteArray) (kids : List Ty) (cs : List Value) (w : World) (hcs : D.Ats w anyB (Ty.ds (.mk k n l kids)) cs) :
    Calls Tryz.prog 135 #[.agg cs.toArray] w fun e w' => e = .returned (.bool (kids.any isU)) ∧ Below w.heap.size w w' := by
  obtain ⟨A, cap, B, cap2, rfl, -, -, hl, hk⟩ := Ty.open_ hcs
  obtain ⟨-, hn, hc⟩ := rows_bound hk
  unfold maxLen at hc
  have HV := Lib.hid hk
  clear hcs hl hk
  go_enter Tryz.func135, Tryz.ntmps135
  go_wp2
  go_loopw [3] (fun i wr => ∃ q : Nat, q ≤ kids.length ∧ i = .int .i64 q ∧ NoneTo isU kids q ∧ Below (w.alloc (.cells #[.int .i64 k, .string n, .slice A l.length cap, .slice B kids.length cap2] 40)).heap.size (w.alloc (.cells #[.int .i64 k, .string n, .slice A l.length cap, .slice B kids.length cap2] 40)) wr) (fun i _ => kids.length - (intOf i).toNat)
  case atStart => exact ⟨0, Nat.zero_le _, rfl, NoneTo.zero _ _, Below.refl _ _⟩
  case round =>
    obtain ⟨q, hq, rfl, hst, hb⟩ := hrel
    obtain ⟨Bw, bA⟩ := box1 (cA := [_, _, _, _]) hb
    have c := bA.cell
    by_cases hlt : q < kids.length
    · skip
      obtain ⟨x, hx⟩ : ∃ x, kids[q]? = some x := ⟨kids[q], List.getElem?_eq_getElem hlt⟩
      have hk0 : (0 : Int) ≤ (q : Int) := by omega
      have hk1 : (q : Int) < (kids.length : Int) := by omega
      obtain ⟨b, off, u0, u1, u2, u3, rfl, -, hbl, hat, c0, c1, c2, c3⟩ := rows_at4 Ty.len HV.out hx
      replace c0 := (Bw.cell (p := ⟨b, off + q * 4, none⟩) hbl).trans c0
      replace c1 := (Bw.cell (p := ⟨b, off + q * 4 + 1, none⟩) hbl).trans c1
      replace c2 := (Bw.cell (p := ⟨b, off + q * 4 + 2, none⟩) hbl).trans c2
      replace c3 := (Bw.cell (p := ⟨b, off + q * 4 + 3, none⟩) hbl).trans c3
      have HN := Lib.hid (And.intro hx hst)
      obtain ⟨k', n', l', kids'⟩ := x
      obtain ⟨A1, cap1, B1, cap3, e3, -⟩ := Ty.open_ hat
      simp only [List.cons.injEq, and_true] at e3
      obtain ⟨rfl, rfl, rfl, rfl⟩ := e3
      clear hx hst c1 c2 c3 hat
      cases hs : (k' == 1)
      · have HB := Lib.hid (HN.out.2.next HN.out.1 (show isU (.mk k' n' l' kids') = false from hs))
        go_wp2
        go_roundw
        case rel => exact ⟨q + 1, by omega, by go_num, HB.out, hb⟩
        case measure => simp [intOf]; omega
      · have HB := Lib.hid (any_bad (p := isU) HN.out.1 hs)
        go_wp2
        go_ret
        exact ⟨ret_eq (by rw [HB.out]; rfl), Bw⟩
    · obtain rfl : q = kids.length := by omega
      have HB := Lib.hid hst.end_
      clear hst
      go_wp2
      go_ret
      exact ⟨ret_eq (by rw [HB.out]; rfl), Bw⟩

/-- A function that says p of a struct. -/
def IsPr {α : Type} (F : FuncId) (f : α → List D) (p : α → Bool) (fv : Array Value) (C : World → Prop) (x : α) : Prop := ∀ (cs : List Value) (w : World), C w → D.Ats w anyB (f x) cs →
  Calls Tryz.prog F (#[.agg cs.toArray] ++ fv) w fun e w' => e = .returned (.bool (p x)) ∧ Below w.heap.size w w'
theorem isUnit_i (x : Ty) : IsPr 111 Ty.ds isU #[] (fun _ => True) x := by
  intro cs w _ hcs
  obtain ⟨k, n, l, kids⟩ := x
  obtain ⟨A, cap, B, cap2, rfl, -, -, hl, hk⟩ := Ty.open_ hcs
  clear hcs hl hk
  go_enter Tryz.func111, Tryz.ntmps111
  go_wp2
  go_ret
  exact ⟨rfl, (by repeat (first | exact Below.refl _ _ | refine Below.alloc ?_ (by first | omega | (simp <;> omega)) _))⟩

set_option maxHeartbeats 2000000 in
set_option maxRecDepth 20000 in
theorem indexFunc0 (F : FuncId) (p : Ty → Bool) (l : List Ty) (hl : ∀ x ∈ l, IsPr F Ty.ds p #[] (fun _ => True) x) (hF : ∀ args w, (callFunc F args).run Tryz.prog w = .ok (.enter F args) w) (A : Option Addr) (cap : Nat) (w : World) (hv : D.At w anyB (rows Ty.ds 4 l) (.slice A l.length cap)) :
    Calls Tryz.prog 119 #[.slice A l.length cap, .func (.func F) #[] #[]] w fun e w' => (∃ r : Int, e = .returned (.int .i64 r) ∧ decide (0 ≤ r) = l.any p) ∧ Below w.heap.size w w' := by
  obtain ⟨-, hn, hc⟩ := rows_bound hv
  unfold maxLen at hc
  have HV := Lib.hid hv
  have HL := Lib.hid hl
  clear hv hl
  go_enter Tryz.func119, Tryz.ntmps119
  go_wp2
  go_loopw [5, 8] (fun _ i wr => ∃ k : Nat, k ≤ l.length ∧ i = .int .i64 k ∧ NoneTo p l k ∧ Below w.heap.size w wr) (fun _ i _ => l.length - (intOf i).toNat)
  case atStart => exact ⟨0, Nat.zero_le _, rfl, NoneTo.zero _ _, Below.refl _ _⟩
  case round =>
    obtain ⟨k, hk, rfl, hst, hb⟩ := hrel
    by_cases hlt : k < l.length
    · obtain ⟨x, hx⟩ : ∃ x, l[k]? = some x := ⟨l[k], List.getElem?_eq_getElem hlt⟩
      have hk0 : (0 : Int) ≤ (k : Int) := by omega
      have hk1 : (k : Int) < (l.length : Int) := by omega
      obtain ⟨b, off, u0, u1, u2, u3, rfl, -, hbl, hat, c0, c1, c2, c3⟩ := rows_at4 Ty.len HV.out hx
      replace c0 := (hb.cell (p := ⟨b, off + k * 4, none⟩) hbl).trans c0
      replace c1 := (hb.cell (p := ⟨b, off + k * 4 + 1, none⟩) hbl).trans c1
      replace c2 := (hb.cell (p := ⟨b, off + k * 4 + 2, none⟩) hbl).trans c2
      replace c3 := (hb.cell (p := ⟨b, off + k * 4 + 3, none⟩) hbl).trans c3
      have HX := Lib.hid (HL.out x (List.mem_of_getElem? hx))
      have HN := Lib.hid (And.intro hx hst)
      have HA := Lib.hid (hat.below hb)
      clear hx hst hat
      go_wp2_with fail
      refine (HX.out _ _ trivial HA.out).mono ?_
      rintro e w2 ⟨rfl, hb1⟩
      have hb2 := hb.trans (hb1.mono hb.size)
      clear hb1 c0 c1 c2 c3
      cases hs : p x
      · have HB := Lib.hid (HN.out.2.next HN.out.1 hs)
        clear hs
        go_wp2
        go_roundw
        case rel => exact ⟨k + 1, by omega, by go_num, HB.out, hb2⟩
        case measure => simp [intOf]; omega
      · have HB := Lib.hid (any_bad HN.out.1 hs)
        clear hs
        go_wp2
        go_ret
        exact ⟨⟨_, rfl, by rw [HB.out]; simp⟩, hb2⟩
    · obtain rfl : k = l.length := by omega
      have HB := Lib.hid hst.end_
      clear hst
      go_wp2
      go_ret
      exact ⟨⟨-1, rfl, by rw [HB.out]; rfl⟩, hb⟩
set_option maxRecDepth 20000 in
theorem containsFunc0 (F : FuncId) (p : Ty → Bool) (l : List Ty) (hl : ∀ x ∈ l, IsPr F Ty.ds p #[] (fun _ => True) x) (hF : ∀ args w, (callFunc F args).run Tryz.prog w = .ok (.enter F args) w) (A : Option Addr) (cap : Nat) (w : World) (hv : D.At w anyB (rows Ty.ds 4 l) (.slice A l.length cap)) :
    Calls Tryz.prog 100 #[.slice A l.length cap, .func (.func F) #[] #[]] w fun e w' => e = .returned (.bool (l.any p)) ∧ Below w.heap.size w w' := by
  have H := Lib.hid (indexFunc0 F p l hl hF A cap w hv)
  clear hl hv
  go_enter Tryz.func100, Tryz.ntmps100
  go_wp2_with fail
  refine H.out.mono ?_
  rintro e w1 ⟨⟨r, rfl, hr⟩, hb⟩
  have HR := Lib.hid hr
  clear hr
  by_cases h0 : 0 ≤ r
  all_goals
    go_wp2
    go_ret
    exact ⟨ret_eq (by rw [← HR.out]; simp [h0]), hb⟩

set_option maxHeartbeats 2000000 in
set_option maxRecDepth 20000 in
theorem indexFunc1 (F : FuncId) (p : Ty → Bool) (l : List Ty) (g : Nat) (cv : Value) (K : D) (hl : ∀ x ∈ l, IsPr F Ty.ds p #[.pointer (some ⟨g, 0, none⟩)] (fun w => Box w g 29 [cv] ∧ D.At w anyB K cv) x) (hF : ∀ args w, (callFunc F args).run Tryz.prog w = .ok (.enter F args) w) (A : Option Addr) (cap : Nat) (w : World) (hbox : Box w g 29 [cv] ∧ D.At w anyB K cv) (hv : D.At w anyB (rows Ty.ds 4 l) (.slice A l.length cap)) :
    Calls Tryz.prog 119 #[.slice A l.length cap, .func (.func F) #[] #[.pointer (some ⟨g, 0, none⟩)]] w fun e w' => (∃ r : Int, e = .returned (.int .i64 r) ∧ decide (0 ≤ r) = l.any p) ∧ Below w.heap.size w w' := by
  obtain ⟨-, hn, hc⟩ := rows_bound hv
  unfold maxLen at hc
  have HV := Lib.hid hv
  have HL := Lib.hid hl
  clear hv hl
  go_enter Tryz.func119, Tryz.ntmps119
  go_wp2
  go_loopw [5, 8] (fun _ i wr => ∃ k : Nat, k ≤ l.length ∧ i = .int .i64 k ∧ NoneTo p l k ∧ Below w.heap.size w wr) (fun _ i _ => l.length - (intOf i).toNat)
  case atStart => exact ⟨0, Nat.zero_le _, rfl, NoneTo.zero _ _, Below.refl _ _⟩
  case round =>
    obtain ⟨k, hk, rfl, hst, hb⟩ := hrel
    by_cases hlt : k < l.length
    · obtain ⟨x, hx⟩ : ∃ x, l[k]? = some x := ⟨l[k], List.getElem?_eq_getElem hlt⟩
      have hk0 : (0 : Int) ≤ (k : Int) := by omega
      have hk1 : (k : Int) < (l.length : Int) := by omega
      obtain ⟨b, off, u0, u1, u2, u3, rfl, -, hbl, hat, c0, c1, c2, c3⟩ := rows_at4 Ty.len HV.out hx
      replace c0 := (hb.cell (p := ⟨b, off + k * 4, none⟩) hbl).trans c0
      replace c1 := (hb.cell (p := ⟨b, off + k * 4 + 1, none⟩) hbl).trans c1
      replace c2 := (hb.cell (p := ⟨b, off + k * 4 + 2, none⟩) hbl).trans c2
      replace c3 := (hb.cell (p := ⟨b, off + k * 4 + 3, none⟩) hbl).trans c3
      have HX := Lib.hid (HL.out x (List.mem_of_getElem? hx))
      have HN := Lib.hid (And.intro hx hst)
      have HA := Lib.hid (hat.below hb)
      clear hx hst hat
      go_wp2_with fail
      refine (HX.out _ _ ⟨hbox.1.call hb, hbox.2.below hb⟩ HA.out).mono ?_
      rintro e w2 ⟨rfl, hb1⟩
      have hb2 := hb.trans (hb1.mono hb.size)
      clear hb1 c0 c1 c2 c3
      cases hs : p x
      · have HB := Lib.hid (HN.out.2.next HN.out.1 hs)
        clear hs
        go_wp2
        go_roundw
        case rel => exact ⟨k + 1, by omega, by go_num, HB.out, hb2⟩
        case measure => simp [intOf]; omega
      · have HB := Lib.hid (any_bad HN.out.1 hs)
        clear hs
        go_wp2
        go_ret
        exact ⟨⟨_, rfl, by rw [HB.out]; simp⟩, hb2⟩
    · obtain rfl : k = l.length := by omega
      have HB := Lib.hid hst.end_
      clear hst
      go_wp2
      go_ret
      exact ⟨⟨-1, rfl, by rw [HB.out]; rfl⟩, hb⟩
set_option maxRecDepth 20000 in
theorem containsFunc1 (F : FuncId) (p : Ty → Bool) (l : List Ty) (g : Nat) (cv : Value) (K : D) (hl : ∀ x ∈ l, IsPr F Ty.ds p #[.pointer (some ⟨g, 0, none⟩)] (fun w => Box w g 29 [cv] ∧ D.At w anyB K cv) x) (hF : ∀ args w, (callFunc F args).run Tryz.prog w = .ok (.enter F args) w) (A : Option Addr) (cap : Nat) (w : World) (hbox : Box w g 29 [cv] ∧ D.At w anyB K cv) (hv : D.At w anyB (rows Ty.ds 4 l) (.slice A l.length cap)) :
    Calls Tryz.prog 100 #[.slice A l.length cap, .func (.func F) #[] #[.pointer (some ⟨g, 0, none⟩)]] w fun e w' => e = .returned (.bool (l.any p)) ∧ Below w.heap.size w w' := by
  have H := Lib.hid (indexFunc1 F p l g cv K hl hF A cap w hbox hv)
  clear hl hv
  go_enter Tryz.func100, Tryz.ntmps100
  go_wp2_with fail
  refine H.out.mono ?_
  rintro e w1 ⟨⟨r, rfl, hr⟩, hb⟩
  have HR := Lib.hid hr
  clear hr
  by_cases h0 : 0 ≤ r
  all_goals
    go_wp2
    go_ret
    exact ⟨ret_eq (by rw [← HR.out]; simp [h0]), hb⟩

end Go.Proofs.YtcpadaelgdmipaaGreatDoor
