/- Types, the same or not: by the reference and by the program. -/
import Derived.Test.YtoioljkhinodaaaGreatDoorEqs
import Derived.Test.YtoioljkhinodaaaGreatDoorTyM
namespace Go.Proofs.YtoioljkhinodaaaGreatDoor
open Go.RowKit

/-- The same, so many levels deep at most. -/
def tyEq : Nat → Ty → Ty → Bool
  | 0, _, _ => false
  | n + 1, x, y => (x.kind == y.kind) && ((x.name.toList == y.name.toList) && (pairs sameS x.labels y.labels && pairs (tyEq n) x.kids y.kids))
theorem tyEq_mk (j : Nat) (k : Int) (n : ByteArray) (l : List ByteArray) (kids : List Ty) (k' : Int) (n' : ByteArray) (l' : List ByteArray) (kids' : List Ty) :
    tyEq (j + 1) (.mk k n l kids) (.mk k' n' l' kids') = ((k == k') && ((n.toList == n'.toList) && (pairs sameS l l' && pairs (tyEq j) kids kids'))) := rfl

set_option maxHeartbeats 2000000 in
set_option maxRecDepth 20000 in
theorem l03Same_s (n : Nat) : n ≤ 100 → ∀ (x y : Ty) (cs cs' : List Value) (d : Int) (w : World), d = 101 - n → D.Ats w anyB x.ds cs → D.Ats w anyB y.ds cs' →
    Calls Tryz.prog 104 #[.agg cs.toArray, .agg cs'.toArray, .int .i64 d] w fun e w' => e = .returned (.bool (tyEq n x y)) ∧ Below w.heap.size w w' := by
  induction n with
  | zero =>
    intro _ x y cs cs' d w hd hcs hcs'
    have hd1 : 100 < d := by omega
    clear hd
    obtain ⟨k, n, A0, m0, c0, A0', m0', c0', rfl⟩ := Ty.form hcs
    obtain ⟨k', n', A1, m1, c1, A1', m1', c1', rfl⟩ := Ty.form hcs'
    clear hcs hcs'
    go_enter Tryz.func104, Tryz.ntmps104
    go_wp2
    go_ret
    exact ⟨rfl, by repeat (first | exact Below.refl _ _ | refine Below.alloc ?_ (by first | omega | (simp <;> omega)) _)⟩
  | succ j ih =>
    intro hj x y cs cs' d w hd hcs hcs'
    have hd1 : 1 ≤ d := by omega
    have hd2 : d ≤ 100 := by omega
    have HD := Lib.hid hd
    obtain ⟨k, n, l, kids⟩ := x
    obtain ⟨k', n', l', kids'⟩ := y
    have hE := tyEq_mk j k n l kids k' n' l' kids'
    have HE := Lib.hid hE
    obtain ⟨A, cap, B, cap2, rfl, -, -, hl, hk⟩ := Ty.open_ hcs
    obtain ⟨A', cap', B', cap2', rfl, -, -, hl', hk'⟩ := Ty.open_ hcs'
    obtain ⟨-, hn, hc⟩ := rows_bound hk
    obtain ⟨-, hn', hc'⟩ := rows_bound hk'
    unfold maxLen at hc hc'
    have HV := Lib.hid hk
    have HV' := Lib.hid hk'
    have HT := Lib.hid (And.intro hl hl')
    have HI := Lib.hid (ih (by omega))
    clear hd hE hcs hcs' hl hl' hk hk' ih
    cases h0 : (k == k')
    · have g0 : (k != k') = true := by simp [bne, h0]
      have E0 := Lib.hid h0
      go_enter Tryz.func104, Tryz.ntmps104
      go_wp2
      go_ret
      exact ⟨ret_eq (by rw [HE.out, E0.out]; rfl), by repeat (first | exact Below.refl _ _ | refine Below.alloc ?_ (by first | omega | (simp <;> omega)) _)⟩
    · have g0 : (k != k') = false := by simp [bne, h0]
      have E0 := Lib.hid h0
      cases h1 : (n.toList == n'.toList)
      · have g1 : (n.toList != n'.toList) = true := by simp [bne, h1]
        have E1 := Lib.hid h1
        go_enter Tryz.func104, Tryz.ntmps104
        go_wp2
        go_ret
        exact ⟨ret_eq (by rw [HE.out, E0.out, E1.out]; rfl), by repeat (first | exact Below.refl _ _ | refine Below.alloc ?_ (by first | omega | (simp <;> omega)) _)⟩
      · have g1 : (n.toList != n'.toList) = false := by simp [bne, h1]
        have E1 := Lib.hid h1
        go_enter Tryz.func104, Tryz.ntmps104
        go_wp2_with fail
        refine (l03Texts_s l l' _ _ _ (HT.out.1.below (by repeat (first | exact Below.refl _ _ | refine Below.alloc ?_ (by first | omega | (simp <;> omega)) _))) (HT.out.2.below (by repeat (first | exact Below.refl _ _ | refine Below.alloc ?_ (by first | omega | (simp <;> omega)) _)))).mono ?_
        rintro e w1 ⟨rfl, hb1⟩
        obtain ⟨B1, bA, bB⟩ := box2 (cA := [_, _, _, _]) (cB := [_, _, _, _]) hb1
        clear hb1
        have c := bA.cell
        have d' := bB.cell
        cases h2 : pairs sameS l l'
        · have E2 := Lib.hid h2
          clear h2
          go_wp2
          go_ret
          exact ⟨ret_eq (by rw [HE.out, E0.out, E1.out, E2.out]; rfl), B1⟩
        · have E2 := Lib.hid h2
          clear h2
          by_cases hlm : kids.length = kids'.length
          · have g2 : ((kids.length : Int) != (kids'.length : Int)) = false := by simp [hlm]
            have HLM := Lib.hid hlm
            have hle : kids'.length ≤ kids.length := by omega
            clear hlm
            go_wp2
            go_loopw [7] (fun i wr => ∃ q : Nat, q ≤ kids.length ∧ i = .int .i64 q ∧ PairsTo (tyEq j) kids kids' q ∧ Below w1.heap.size w1 wr) (fun i _ => kids.length - (intOf i).toNat)
            case atStart => exact ⟨0, Nat.zero_le _, rfl, PairsTo.zero _ _ _, Below.refl _ _⟩
            case round =>
              obtain ⟨q, hq, rfl, hst, hb⟩ := hrel
              clear c d'
              have fA := bA.call hb
              have fB := bB.call hb
              have c := fA.cell
              have d' := fB.cell
              by_cases hlt : q < kids.length
              · obtain ⟨x, hx⟩ : ∃ x, kids[q]? = some x := ⟨kids[q], List.getElem?_eq_getElem hlt⟩
                obtain ⟨y, hy⟩ : ∃ y, kids'[q]? = some y := ⟨kids'[q]'(by have := HLM.out; omega), List.getElem?_eq_getElem (by have := HLM.out; omega)⟩
                have hltm : (q : Int) < (kids'.length : Int) := by have := HLM.out; omega
                have hk0 : (0 : Int) ≤ (q : Int) := by omega
                have hk1 : (q : Int) < (kids.length : Int) := by omega
                obtain ⟨b, off, u0, u1, u2, u3, rfl, -, hbl, hat, c0, c1, c2, c3⟩ := rows_at4 Ty.len HV.out hx
                obtain ⟨b', off', v0, v1, v2, v3, rfl, -, hbl', hat', d0, d1, d2, d3⟩ := rows_at4 Ty.len HV'.out hy
                have Bw := B1.trans (hb.mono B1.size)
                replace c0 := cell_regrown ((Bw.cell (p := ⟨b, off + q * 4, none⟩) hbl).trans c0)
                replace c1 := cell_regrown ((Bw.cell (p := ⟨b, off + q * 4 + 1, none⟩) hbl).trans c1)
                replace c2 := cell_regrown ((Bw.cell (p := ⟨b, off + q * 4 + 2, none⟩) hbl).trans c2)
                replace c3 := cell_regrown ((Bw.cell (p := ⟨b, off + q * 4 + 3, none⟩) hbl).trans c3)
                replace d0 := cell_regrown ((Bw.cell (p := ⟨b', off' + q * 4, none⟩) hbl').trans d0)
                replace d1 := cell_regrown ((Bw.cell (p := ⟨b', off' + q * 4 + 1, none⟩) hbl').trans d1)
                replace d2 := cell_regrown ((Bw.cell (p := ⟨b', off' + q * 4 + 2, none⟩) hbl').trans d2)
                replace d3 := cell_regrown ((Bw.cell (p := ⟨b', off' + q * 4 + 3, none⟩) hbl').trans d3)
                have f1 := cell_regrown (show wr.cell? ⟨w.heap.size, 3, none⟩ = some (.slice (some ⟨b, off, none⟩) kids.length cap2) from c 3)
                have f2 := cell_regrown (show wr.cell? ⟨w.heap.size + 1, 3, none⟩ = some (.slice (some ⟨b', off', none⟩) kids'.length cap2') from d' 3)
                have HN := Lib.hid (And.intro hx (And.intro hy hst))
                have hw1 : IntKind.i64.wrap (d + 1) = d + 1 := by rw [IntKind.wrap_i64]; omega
                clear hx hy hst
                go_wp2_with fail
                refine wp_region_quiet_below (by kernel_rfl) (by kernel_rfl) ?_
                repeat (quiet_step (exact Calls.regrown_of (HI.out x y _ _ _ _ (by have := HD.out; omega) ((hat.below Bw).below (below_regrown _ _ _)) ((hat'.below Bw).below (below_regrown _ _ _)))))
                refine wpQuiet_nil ?_
                intro w2 hw2
                have hb2 := hb.trans ((below_of_regrown hw2).mono hb.size)
                have Bw2 := Bw.trans ((below_of_regrown hw2).mono Bw.size)
                clear hw2 c0 c1 c2 c3 d0 d1 d2 d3 f1 f2 c d' hw1
                cases hs : tyEq j x y
                · have HB := Lib.hid (pairs_bad HN.out.1 HN.out.2.1 hs)
                  clear hs
                  go_wp2
                  go_ret
                  exact ⟨ret_eq (by rw [HE.out, E0.out, E1.out, E2.out, HB.out]; rfl), Bw2⟩
                · have HB := Lib.hid (HN.out.2.2.next HN.out.1 HN.out.2.1 hs)
                  clear hs
                  go_wp2
                  go_roundw
                  case rel => exact ⟨q + 1, by omega, by go_num, HB.out, hb2⟩
                  case measure => simp [intOf]; omega
              · obtain rfl : q = kids.length := by omega
                have HB := Lib.hid (PairsTo.end_ HLM.out hst)
                go_wp2
                go_ret
                exact ⟨ret_eq (by rw [HE.out, E0.out, E1.out, E2.out, HB.out]; rfl), B1.trans (hb.mono B1.size)⟩
          · have g2 : ((kids.length : Int) != (kids'.length : Int)) = true := by rw [bne_iff_ne]; omega
            have E3 := Lib.hid (pairs_len (q := tyEq j) hlm)
            go_wp2
            go_ret
            exact ⟨ret_eq (by rw [HE.out, E0.out, E1.out, E2.out, E3.out]; rfl), B1⟩

theorem sameType_s (x y : Ty) (cs cs' : List Value) (w : World) (hcs : D.Ats w anyB x.ds cs) (hcs' : D.Ats w anyB y.ds cs') :
    Calls Tryz.prog 73 #[.agg cs.toArray, .agg cs'.toArray] w fun e w' => e = .returned (.bool (tyEq 100 x y)) ∧ Below w.heap.size w w' := by
  obtain ⟨k, n, A0, m0, c0, A0', m0', c0', rfl⟩ := Ty.form hcs
  obtain ⟨k', n', A1, m1, c1, A1', m1', c1', rfl⟩ := Ty.form hcs'
  have HA := Lib.hid (And.intro hcs hcs')
  clear hcs hcs'
  go_enter Tryz.func73, Tryz.ntmps73
  go_wp2_with fail
  refine (l03Same_s 100 (Nat.le_refl _) x y _ _ _ _ (by decide) (HA.out.1.below (by repeat (first | exact Below.refl _ _ | refine Below.alloc ?_ (by first | omega | (simp <;> omega)) _))) (HA.out.2.below (by repeat (first | exact Below.refl _ _ | refine Below.alloc ?_ (by first | omega | (simp <;> omega)) _)))).mono ?_
  rintro e w1 ⟨rfl, hb1⟩
  obtain ⟨B1, bA, bB⟩ := box2 (cA := [_, _, _, _]) (cB := [_, _, _, _]) hb1
  clear hb1
  go_wp2
  go_ret
  exact ⟨rfl, B1⟩

/-- A function with one captured variable that says q of two structs. -/
def IsQ1 {α : Type} (F : FuncId) (f : α → List D) (q : α → α → Bool) (g : Nat) (t : TypeId) (cv : Value) (x : α) : Prop := ∀ (y : α) (cs cs' : List Value) (w : World), Box w g t [cv] → D.Ats w anyB (f x) cs → D.Ats w anyB (f y) cs' →
  Calls Tryz.prog F #[.agg cs.toArray, .agg cs'.toArray, .pointer (some ⟨g, 0, none⟩)] w fun e w' => e = .returned (.bool (q x y)) ∧ Below w.heap.size w w'

set_option maxHeartbeats 1000000 in
theorem equalFunc_Type (q : Ty → Ty → Bool) (l m : List Ty) (g : Nat) (cv : Value) (hl : ∀ x ∈ l, IsQ1 121 Ty.ds q g 3 cv x) (v v' : Value) (w : World) (hbox : Box w g 3 [cv]) (hv : D.At w anyB (rows Ty.ds 4 l) v) (hv' : D.At w anyB (rows Ty.ds 4 m) v') :
    Calls Tryz.prog 120 #[v, v', .func (.func 121) #[] #[.pointer (some ⟨g, 0, none⟩)]] w fun e w' => e = .returned (.bool (pairs q l m)) ∧ Below w.heap.size w w' := by
  obtain ⟨A, cap, rfl, hn, hc⟩ := rows_form Ty.len hv
  obtain ⟨A', cap', rfl, hn', hc'⟩ := rows_form Ty.len hv'
  unfold maxLen at hc hc'
  have HV := Lib.hid hv
  have HV' := Lib.hid hv'
  have HL := Lib.hid hl
  clear hv hv' hl
  by_cases hlm : l.length = m.length
  · have g1 : ((l.length : Int) != (m.length : Int)) = false := by simp [hlm]
    have HLM := Lib.hid hlm
    have hle : m.length ≤ l.length := by omega
    clear hlm
    go_enter Tryz.func120, Tryz.ntmps120
    go_wp2
    go_loopw [7, 8, 9, 17] (fun _ _ _ i wr => ∃ k : Nat, k ≤ l.length ∧ i = .int .i64 k ∧ PairsTo q l m k ∧ Below w.heap.size w wr) (fun _ _ _ i _ => l.length - (intOf i).toNat)
    case atStart => exact ⟨0, Nat.zero_le _, rfl, PairsTo.zero _ _ _, Below.refl _ _⟩
    case round =>
      obtain ⟨k, hk, rfl, hst, hb⟩ := hrel
      by_cases hlt : k < l.length
      · obtain ⟨x, hx⟩ : ∃ x, l[k]? = some x := ⟨l[k], List.getElem?_eq_getElem hlt⟩
        obtain ⟨y, hy⟩ : ∃ y, m[k]? = some y := ⟨m[k]'(by have := HLM.out; omega), List.getElem?_eq_getElem (by have := HLM.out; omega)⟩
        have hltm : (k : Int) < (m.length : Int) := by have := HLM.out; omega
        have hk0 : (0 : Int) ≤ (k : Int) := by omega
        have hk1 : (k : Int) < (l.length : Int) := by omega
        obtain ⟨b, off, u0, u1, u2, u3, rfl, -, hbl, hat, c0, c1, c2, c3⟩ := rows_at4 Ty.len HV.out hx
        obtain ⟨b', off', v0, v1, v2, v3, rfl, -, hbl', hat', d0, d1, d2, d3⟩ := rows_at4 Ty.len HV'.out hy
        replace c0 := (hb.cell (p := ⟨b, off + k * 4, none⟩) hbl).trans c0
        replace c1 := (hb.cell (p := ⟨b, off + k * 4 + 1, none⟩) hbl).trans c1
        replace c2 := (hb.cell (p := ⟨b, off + k * 4 + 2, none⟩) hbl).trans c2
        replace c3 := (hb.cell (p := ⟨b, off + k * 4 + 3, none⟩) hbl).trans c3
        replace d0 := (hb.cell (p := ⟨b', off' + k * 4, none⟩) hbl').trans d0
        replace d1 := (hb.cell (p := ⟨b', off' + k * 4 + 1, none⟩) hbl').trans d1
        replace d2 := (hb.cell (p := ⟨b', off' + k * 4 + 2, none⟩) hbl').trans d2
        replace d3 := (hb.cell (p := ⟨b', off' + k * 4 + 3, none⟩) hbl').trans d3
        have hxm : x ∈ l := List.mem_of_getElem? hx
        have HX := Lib.hid (HL.out x hxm)
        have HN := Lib.hid (And.intro hx (And.intro hy hst))
        have hbw := Nat.lt_of_lt_of_le hbl hb.size
        have hbw' := Nat.lt_of_lt_of_le hbl' hb.size
        clear hx hy hst hxm
        obtain ⟨x0, x1, x2A, x2m, x2c, x3A, x3m, x3c, e3⟩ := Ty.form hat
        obtain ⟨y0, y1, y2A, y2m, y2c, y3A, y3m, y3c, e3'⟩ := Ty.form hat'
        simp only [List.cons.injEq, and_true] at e3 e3'
        obtain ⟨rfl, rfl, rfl, rfl⟩ := e3
        obtain ⟨rfl, rfl, rfl, rfl⟩ := e3'
        have HA := Lib.hid (And.intro (hat.below hb) (hat'.below hb))
        clear hat hat'
        go_wp2_with fail
        refine (HX.out _ _ _ _ (Box.call (hbox.call hb) (by repeat (first | exact Below.refl _ _ | refine Below.alloc ?_ (by first | omega | (simp <;> omega)) _))) (HA.out.1.below (by repeat (first | exact Below.refl _ _ | refine Below.alloc ?_ (by first | omega | (simp <;> omega)) _))) (HA.out.2.below (by repeat (first | exact Below.refl _ _ | refine Below.alloc ?_ (by first | omega | (simp <;> omega)) _)))).mono ?_
        rintro e w2 ⟨rfl, hb1⟩
        have hsz := hb.size
        have hb2 : Below w.heap.size w w2 := hb.trans (Below.trans (by repeat (first | exact Below.refl _ _ | refine Below.alloc ?_ (by first | omega | (simp <;> omega)) _)) (hb1.mono (by simp; omega)))
        clear hb1 c0 c1 c2 c3 d0 d1 d2 d3
        cases hs : q x y
        · have HB := Lib.hid (pairs_bad HN.out.1 HN.out.2.1 hs)
          go_wp2
          go_ret
          exact ⟨ret_eq (by rw [HB.out]; rfl), hb2⟩
        · have HB := Lib.hid (HN.out.2.2.next HN.out.1 HN.out.2.1 hs)
          go_wp2
          go_roundw
          case rel => exact ⟨k + 1, by omega, by go_num, HB.out, hb2⟩
          case measure => simp [intOf]; omega
      · obtain rfl : k = l.length := by omega
        have HB := Lib.hid (PairsTo.end_ HLM.out hst)
        go_wp2
        go_ret
        exact ⟨ret_eq (by rw [HB.out]; rfl), hb⟩
  · have g1 : ((l.length : Int) != (m.length : Int)) = true := by rw [bne_iff_ne]; omega
    rw [pairs_len hlm]
    go_enter Tryz.func120, Tryz.ntmps120
    go_wp2
    go_ret
    exact ⟨rfl, Below.refl _ _⟩

set_option maxHeartbeats 1000000 in
set_option maxRecDepth 20000 in
theorem sameType_clo (j : Nat) (hj : j ≤ 100) (ih : ∀ (x y : Ty) (cs cs' : List Value) (d : Int) (w : World), d = j → D.Ats w anyB x.ds cs → D.Ats w anyB y.ds cs' →
      Calls Tryz.prog 100 #[.agg cs.toArray, .agg cs'.toArray, .int .i64 d] w fun e w' => e = .returned (.bool (tyEq j x y)) ∧ Below w.heap.size w w')
    (g : Nat) (d : Int) (hd : d = j + 1) (x : Ty) : IsQ1 121 Ty.ds (tyEq j) g 3 (.int .i64 d) x := by
  intro y cs cs' w hbox hcs hcs'
  obtain ⟨k, n, A0, m0, c0, A0', m0', c0', rfl⟩ := Ty.form hcs
  obtain ⟨k', n', A1, m1, c1, A1', m1', c1', rfl⟩ := Ty.form hcs'
  have HA := Lib.hid (And.intro hcs hcs')
  have HI := Lib.hid ih
  have HD := Lib.hid hd
  have hd1 : 1 ≤ d := by omega
  have hd2 : d ≤ 101 := by omega
  clear hcs hcs' ih hd
  have hl := hbox.lt
  have c := hbox.cell
  go_enter Tryz.func121, Tryz.ntmps121
  go_wp2_with fail
  refine (HI.out x y _ _ _ _ (by have := HD.out; omega) (HA.out.1.below (by repeat (first | exact Below.refl _ _ | refine Below.alloc ?_ (by first | omega | (simp <;> omega)) _))) (HA.out.2.below (by repeat (first | exact Below.refl _ _ | refine Below.alloc ?_ (by first | omega | (simp <;> omega)) _)))).mono ?_
  rintro e w1 ⟨rfl, hb1⟩
  obtain ⟨B1, bA, bB⟩ := box2 (cA := [_, _, _, _]) (cB := [_, _, _, _]) hb1
  clear hb1 c
  go_wp2
  go_ret
  exact ⟨rfl, B1⟩

set_option maxHeartbeats 2000000 in
set_option maxRecDepth 20000 in
theorem sameType_i0 (n : Nat) : n ≤ 100 → ∀ (x y : Ty) (cs cs' : List Value) (d : Int) (w : World), d = n → D.Ats w anyB x.ds cs → D.Ats w anyB y.ds cs' →
    Calls Tryz.prog 100 #[.agg cs.toArray, .agg cs'.toArray, .int .i64 d] w fun e w' => e = .returned (.bool (tyEq n x y)) ∧ Below w.heap.size w w' := by
  induction n with
  | zero =>
    intro _ x y cs cs' d w hd hcs hcs'
    obtain rfl : d = 0 := by omega
    clear hd
    obtain ⟨k, n, A0, m0, c0, A0', m0', c0', rfl⟩ := Ty.form hcs
    obtain ⟨k', n', A1, m1, c1, A1', m1', c1', rfl⟩ := Ty.form hcs'
    clear hcs hcs'
    go_enter Tryz.func100, Tryz.ntmps100
    go_wp2
    go_ret
    exact ⟨rfl, by repeat (first | exact Below.refl _ _ | refine Below.alloc ?_ (by first | omega | (simp <;> omega)) _)⟩
  | succ j ih =>
    intro hj x y cs cs' d w hd hcs hcs'
    have hd1 : 1 ≤ d := by omega
    have hd2 : d ≤ 100 := by omega
    have hz : (d == 0) = false := beq_eq_false_iff_ne.2 (by omega)
    have HD := Lib.hid hd
    obtain ⟨k, n, l, kids⟩ := x
    obtain ⟨k', n', l', kids'⟩ := y
    have hE := tyEq_mk j k n l kids k' n' l' kids'
    have HE := Lib.hid hE
    obtain ⟨A, cap, B, cap2, rfl, -, -, hl, hk⟩ := Ty.open_ hcs
    obtain ⟨A', cap', B', cap2', rfl, -, -, hl', hk'⟩ := Ty.open_ hcs'
    have HT := Lib.hid (And.intro hl hl')
    have HK := Lib.hid (And.intro hk hk')
    have HI := Lib.hid (ih (by omega))
    clear hd hE hcs hcs' hl hl' hk hk' ih
    cases h0 : (k == k')
    · have g0 : (k != k') = true := by simp [bne, h0]
      have E0 := Lib.hid h0
      go_enter Tryz.func100, Tryz.ntmps100
      go_wp2
      go_ret
      exact ⟨ret_eq (by rw [HE.out, E0.out]; rfl), by repeat (first | exact Below.refl _ _ | refine Below.alloc ?_ (by first | omega | (simp <;> omega)) _)⟩
    · have g0 : (k != k') = false := by simp [bne, h0]
      have E0 := Lib.hid h0
      cases h1 : (n.toList == n'.toList)
      · have g1 : (n.toList != n'.toList) = true := by simp [bne, h1]
        have E1 := Lib.hid h1
        go_enter Tryz.func100, Tryz.ntmps100
        go_wp2
        go_ret
        exact ⟨ret_eq (by rw [HE.out, E0.out, E1.out]; rfl), by repeat (first | exact Below.refl _ _ | refine Below.alloc ?_ (by first | omega | (simp <;> omega)) _)⟩
      · have g1 : (n.toList != n'.toList) = false := by simp [bne, h1]
        have E1 := Lib.hid h1
        go_enter Tryz.func100, Tryz.ntmps100
        go_wp2_with fail
        refine (slicesEqual_s l l' _ _ _ (HT.out.1.below (by repeat (first | exact Below.refl _ _ | refine Below.alloc ?_ (by first | omega | (simp <;> omega)) _))) (HT.out.2.below (by repeat (first | exact Below.refl _ _ | refine Below.alloc ?_ (by first | omega | (simp <;> omega)) _)))).mono ?_
        rintro e w1 ⟨rfl, hb1⟩
        obtain ⟨B1, bA, bB, bC⟩ := box3 (cA := [_, _, _, _]) (cB := [_, _, _, _]) (cC := [_]) hb1
        clear hb1
        have c := bA.cell
        have d' := bB.cell
        cases h2 : pairs sameS l l'
        · have E2 := Lib.hid h2
          clear h2
          go_wp2
          go_ret
          exact ⟨ret_eq (by rw [HE.out, E0.out, E1.out, E2.out]; rfl), B1⟩
        · have E2 := Lib.hid h2
          clear h2
          go_wp2_with fail
          refine (equalFunc_Type (tyEq j) kids kids' _ _ (fun x _ => sameType_clo j (by omega) HI.out _ d (by have := HD.out; omega) x) _ _ _ bC (HK.out.1.below B1) (HK.out.2.below B1)).mono ?_
          rintro e w2 ⟨rfl, hb2⟩
          have B2 := B1.trans (hb2.mono B1.size)
          clear hb2 c d'
          go_wp2
          go_ret
          exact ⟨ret_eq (by rw [HE.out, E0.out, E1.out, E2.out]; rfl), B2⟩

theorem sameType_i (x y : Ty) (cs cs' : List Value) (w : World) (hcs : D.Ats w anyB x.ds cs) (hcs' : D.Ats w anyB y.ds cs') :
    Calls Tryz.prog 65 #[.agg cs.toArray, .agg cs'.toArray] w fun e w' => e = .returned (.bool (tyEq 100 x y)) ∧ Below w.heap.size w w' := by
  obtain ⟨k, n, A0, m0, c0, A0', m0', c0', rfl⟩ := Ty.form hcs
  obtain ⟨k', n', A1, m1, c1, A1', m1', c1', rfl⟩ := Ty.form hcs'
  have HA := Lib.hid (And.intro hcs hcs')
  clear hcs hcs'
  go_enter Tryz.func65, Tryz.ntmps65
  go_wp2_with fail
  refine (sameType_i0 100 (Nat.le_refl _) x y _ _ _ _ (by decide) (HA.out.1.below (by repeat (first | exact Below.refl _ _ | refine Below.alloc ?_ (by first | omega | (simp <;> omega)) _))) (HA.out.2.below (by repeat (first | exact Below.refl _ _ | refine Below.alloc ?_ (by first | omega | (simp <;> omega)) _)))).mono ?_
  rintro e w1 ⟨rfl, hb1⟩
  obtain ⟨B1, bA, bB⟩ := box2 (cA := [_, _, _, _]) (cB := [_, _, _, _]) hb1
  clear hb1
  go_wp2
  go_ret
  exact ⟨rfl, B1⟩
end Go.Proofs.YtoioljkhinodaaaGreatDoor
