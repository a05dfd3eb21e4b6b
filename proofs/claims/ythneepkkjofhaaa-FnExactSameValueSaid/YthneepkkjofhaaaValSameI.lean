/- Values: comparison by the program, and the law SameValue but for the opening of its arguments. -/
import Derived.Test.YthneepkkjofhaaaValSame
namespace Go.Proofs.Ythneepkkjofhaaa
open Go.RowKit

set_option maxHeartbeats 1000000 in
theorem equalFunc_Value (l m : List Val) (hl : ∀ x ∈ l, IsSame 22 x) (v v' : Value) (w : World) (hv : D.At w anyB (Val.sl l) v) (hv' : D.At w anyB (Val.sl m) v') :
    Calls Try.prog 77 #[v, v', .func (.func 22) #[] #[]] w fun e w' => e = .returned (.bool (Val.sames l m)) ∧ Below w.heap.size w w' := by
  obtain ⟨A, cap, rfl, hn, hc⟩ := Val.sl_form hv
  obtain ⟨A', cap', rfl, hn', hc'⟩ := Val.sl_form hv'
  unfold maxLen at hc hc'
  have HV := Lib.hid hv
  have HV' := Lib.hid hv'
  have HL := Lib.hid hl
  clear hv hv' hl
  by_cases hlm : l.length = m.length
  · have g1 : ((l.length : Int) != (m.length : Int)) = false := by simp [hlm]
    have HLM := Lib.hid hlm
    have hle : m.length ≤ l.length := by omega
    clear hlm
    go_enter Try.func77, Try.ntmps77
    go_wp2
    go_loopw [7, 8, 9, 17] (fun _ _ _ i wr => ∃ k : Nat, k ≤ l.length ∧ i = .int .i64 k ∧ SameTo l m k ∧ Below w.heap.size w wr) (fun _ _ _ i _ => l.length - (intOf i).toNat)
    case atStart => exact ⟨0, Nat.zero_le _, rfl, by simp [SameTo, Val.sames], Below.refl _ _⟩
    case round =>
      obtain ⟨k, hk, rfl, hst, hb⟩ := hrel
      by_cases hlt : k < l.length
      · obtain ⟨x, hx⟩ : ∃ x, l[k]? = some x := ⟨l[k], List.getElem?_eq_getElem hlt⟩
        obtain ⟨y, hy⟩ : ∃ y, m[k]? = some y := ⟨m[k]'(by have := HLM.out; omega), List.getElem?_eq_getElem (by have := HLM.out; omega)⟩
        have hltm : (k : Int) < (m.length : Int) := by have := HLM.out; omega
        have hk0 : (0 : Int) ≤ (k : Int) := by omega
        have hk1 : (k : Int) < (l.length : Int) := by omega
        obtain ⟨b, off, u0, u1, u2, u3, rfl, -, hbl, hat, c0, c1, c2, c3⟩ := Val.sl_at HV.out hx
        obtain ⟨b', off', v0, v1, v2, v3, rfl, -, hbl', hat', d0, d1, d2, d3⟩ := Val.sl_at HV'.out hy
        replace c0 := (hb.cell (p := ⟨b, off + k * 4, none⟩) hbl).trans c0
        replace c1 := (hb.cell (p := ⟨b, off + k * 4 + 1, none⟩) hbl).trans c1
        replace c2 := (hb.cell (p := ⟨b, off + k * 4 + 2, none⟩) hbl).trans c2
        replace c3 := (hb.cell (p := ⟨b, off + k * 4 + 3, none⟩) hbl).trans c3
        replace d0 := (hb.cell (p := ⟨b', off' + k * 4, none⟩) hbl').trans d0
        replace d1 := (hb.cell (p := ⟨b', off' + k * 4 + 1, none⟩) hbl').trans d1
        replace d2 := (hb.cell (p := ⟨b', off' + k * 4 + 2, none⟩) hbl').trans d2
        replace d3 := (hb.cell (p := ⟨b', off' + k * 4 + 3, none⟩) hbl').trans d3
        have hxm : x ∈ l := List.mem_of_getElem? hx
        have HX := Lib.hid (HL.out x hxm)
        have HN := Lib.hid (And.intro hx (And.intro hy hst))
        have hbw := Nat.lt_of_lt_of_le hbl hb.size
        have hbw' := Nat.lt_of_lt_of_le hbl' hb.size
        clear hx hy hst hxm
        obtain ⟨xk, xn, xt, xkids⟩ := x
        obtain ⟨yk, yn, yt, ykids⟩ := y
        have hat0 := hat
        have hat0' := hat'
        obtain ⟨w3, e3, -, -, -, hv3⟩ := Val.open_ hat
        obtain ⟨w3', e3', -, -, -, hv3'⟩ := Val.open_ hat'
        simp only [List.cons.injEq, and_true] at e3 e3'
        obtain ⟨rfl, rfl, rfl, rfl⟩ := e3
        obtain ⟨rfl, rfl, rfl, rfl⟩ := e3'
        obtain ⟨A3, cap3, rfl, -, -⟩ := Val.sl_form hv3
        obtain ⟨A3', cap3', rfl, -, -⟩ := Val.sl_form hv3'
        clear hat hat' hv3 hv3'
        have HA := Lib.hid (And.intro (hat0.below hb) (hat0'.below hb))
        clear hat0 hat0'
        go_wp2_with fail
        refine (HX.out _ _ _ _ (HA.out.1.below (by repeat (first | exact Below.refl _ _ | refine Below.alloc ?_ (by first | omega | (simp <;> omega)) _))) (HA.out.2.below (by repeat (first | exact Below.refl _ _ | refine Below.alloc ?_ (by first | omega | (simp <;> omega)) _)))).mono ?_
        rintro e w2 ⟨rfl, hb1⟩
        have hsz := hb.size
        have hb2 : Below w.heap.size w w2 := hb.trans (Below.trans (by repeat (first | exact Below.refl _ _ | refine Below.alloc ?_ (by first | omega | (simp <;> omega)) _)) (hb1.mono (by simp; omega)))
        clear hb1 c0 c1 c2 c3 d0 d1 d2 d3
        cases hs : Val.same (.mk xk xn xt xkids) (.mk yk yn yt ykids)
        · have HB := Lib.hid (sames_bad HN.out.1 HN.out.2.1 hs)
          go_wp2
          go_ret
          exact ⟨ret_eq (by rw [HB.out]; rfl), hb2⟩
        · have HB := Lib.hid (HN.out.2.2.next HLM.out HN.out.1 HN.out.2.1 hs)
          go_wp2
          go_roundw
          case rel => exact ⟨k + 1, by omega, by go_num, HB.out, hb2⟩
          case measure => simp [intOf]; omega
      · obtain rfl : k = l.length := by omega
        have HB := Lib.hid (SameTo.end_ HLM.out hst)
        go_wp2
        go_ret
        exact ⟨ret_eq (by rw [HB.out]; rfl), hb⟩
  · have g1 : ((l.length : Int) != (m.length : Int)) = true := by rw [bne_iff_ne]; omega
    rw [Val.sames_len hlm]
    go_enter Try.func77, Try.ntmps77
    go_wp2
    go_ret
    exact ⟨rfl, Below.refl _ _⟩

set_option maxHeartbeats 1000000 in
theorem sameValue_i (x : Val) : IsSame 22 x := by
  refine Val.ind (fun k n t kids ih => ?_) x
  intro y cs cs' w hcs hcs'
  obtain ⟨k', n', t', kids'⟩ := y
  obtain ⟨v, rfl, -, -, -, hv⟩ := Val.open_ hcs
  obtain ⟨v', rfl, -, -, -, hv'⟩ := Val.open_ hcs'
  have IH := Lib.hid ih
  have HV := Lib.hid hv
  have HV' := Lib.hid hv'
  clear ih hv hv' hcs hcs'
  obtain ⟨A, cap, rfl, -, -⟩ := Val.sl_form HV.out
  obtain ⟨A', cap', rfl, -, -⟩ := Val.sl_form HV'.out
  rcases same_split k n t kids k' n' t' kids' with ⟨h1, h2, hr⟩ | ⟨h1, h2, h3, h4, hr⟩ | ⟨h1, h2, h3, h4, h5, hr⟩ | ⟨h1, h2, h3, h4, h5, hr⟩
  · rw [hr]
    clear hr
    go_enter Try.func22, Try.ntmps22
    go_wp2
    go_ret
    exact ⟨rfl, by repeat (first | exact Below.refl _ _ | refine Below.alloc ?_ (by first | omega | (simp <;> omega)) _)⟩
  · rw [hr]
    clear hr
    go_enter Try.func22, Try.ntmps22
    go_wp2
    go_ret
    exact ⟨rfl, by repeat (first | exact Below.refl _ _ | refine Below.alloc ?_ (by first | omega | (simp <;> omega)) _)⟩
  · rw [hr]
    clear hr
    go_enter Try.func22, Try.ntmps22
    go_wp2
    go_ret
    exact ⟨rfl, by repeat (first | exact Below.refl _ _ | refine Below.alloc ?_ (by first | omega | (simp <;> omega)) _)⟩
  · rw [hr]
    clear hr
    go_enter Try.func22, Try.ntmps22
    go_wp2_with fail
    refine (equalFunc_Value kids kids' IH.out _ _ _ (HV.out.below (by repeat (first | exact Below.refl _ _ | refine Below.alloc ?_ (by first | omega | (simp <;> omega)) _))) (HV'.out.below (by repeat (first | exact Below.refl _ _ | refine Below.alloc ?_ (by first | omega | (simp <;> omega)) _)))).mono ?_
    rintro e w1 ⟨rfl, hb1⟩
    have hB : Below w.heap.size w w1 := Below.trans (by repeat (first | exact Below.refl _ _ | refine Below.alloc ?_ (by first | omega | (simp <;> omega)) _)) (hb1.mono (by first | omega | (simp <;> omega)))
    clear hb1
    go_wp2
    go_ret
    exact ⟨rfl, hB⟩
end Go.Proofs.Ythneepkkjofhaaa
