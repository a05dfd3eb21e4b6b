/- A function's type is valid: by the reference. An append of one text to a row of texts that the call owns; distinct over such a row. A function's type is valid: by the program; the reference's FuncOk. -/
import Derived.Test.YtoioljkhinodaaaGreatDoorTyOkS
import Derived.Test.YtoioljkhinodaaaGreatDoorTyOkI
import Derived.Deep.QuietTactic
import Derived.BigQuiet
import Derived.Test.YtoioljkhinodaaaGreatDoorDistinct
import Derived.Test.YtoioljkhinodaaaGreatDoorStrs
namespace Go.Proofs.YtoioljkhinodaaaGreatDoor
open Go.RowKit

def paOk (p : Pa) : Bool := nameOk p.name && (tyOk p.ty && !isU p.ty)
def resOk (x : Ty) : Bool := tyOk x && !(x.has fun q => q == 21)
def pasOk (l : List Pa) : Bool := decide (l.length ≤ 6) && (!(l.any fun p => !paOk p) && nodupS (l.map Pa.name))
def fnOk (f : Fn) : Bool := pasOk f.params && resOk f.res

set_option maxHeartbeats 4000000 in
set_option maxRecDepth 20000 in
theorem l03Func_s (x : Fn) (cs : List Value) (w : World) (hcs : D.Ats w anyB x.ds cs) :
    Calls Tryz.prog 75 #[.agg cs.toArray] w fun e w' => e = .returned (.bool (fnOk x)) ∧ Below w.heap.size w w' := by
  obtain ⟨ps, res, async⟩ := x
  obtain ⟨B, d, k, n, A, m, c0, A', m', c1, rfl, hp, hr⟩ := Fn.open_ hcs
  simp only at hp hr
  obtain ⟨-, hn, hc⟩ := rows_bound hp
  unfold maxLen at hc
  have HV := Lib.hid hp
  have HR := Lib.hid hr
  have HE := Lib.hid (show fnOk ⟨ps, res, async⟩ = (pasOk ps && resOk res) from rfl)
  clear hcs hp hr
  by_cases hlen : (6 : Int) < (ps.length : Int)
  · have E := Lib.hid (show pasOk ps = false by unfold pasOk; rw [show decide (ps.length ≤ 6) = false from decide_eq_false (by omega)]; rfl)
    go_enter Tryz.func75, Tryz.ntmps75
    go_wp2
    go_ret
    exact ⟨ret_eq (by rw [HE.out, E.out]; rfl), by repeat (first | exact Below.refl _ _ | refine Below.alloc ?_ (by first | omega | (simp <;> omega)) _)⟩
  · have E := Lib.hid (show pasOk ps = (!(ps.any fun p => !paOk p) && nodupS (ps.map Pa.name)) by unfold pasOk; rw [show decide (ps.length ≤ 6) = true from decide_eq_true (by omega)]; rfl)
    go_enter Tryz.func75, Tryz.ntmps75
    go_wp2_with fail
    refine (l03Ok_s res _ _ (HR.out.below ((Below.refl _ _).alloc (Nat.le_refl _) _))).mono ?_
    rintro e w1 ⟨rfl, hb1⟩
    obtain ⟨B1, bA⟩ := box1 (cA := [_, _, _, _, _, _]) hb1
    clear hb1
    have c := bA.cell
    cases h1 : tyOk res
    · have E1 := Lib.hid (show resOk res = false by unfold resOk; rw [h1]; rfl)
      clear c h1
      go_wp2
      go_ret
      exact ⟨ret_eq (by rw [HE.out, E1.out, Bool.and_false]; rfl), B1⟩
    · have E1 := Lib.hid h1
      clear h1
      go_wp2_with fail
      refine (l03Has_s 21 21 res _ _ (HR.out.below B1)).mono ?_
      rintro e w2 ⟨rfl, hb2⟩
      rw [hass21]
      have B2 := B1.trans (hb2.mono B1.size)
      replace bA := bA.call hb2
      clear c hb2
      cases h2 : res.has fun q => q == 21
      case true =>
        have E2 := Lib.hid (show resOk res = false by unfold resOk; rw [E1.out, h2]; rfl)
        clear h2
        go_wp2
        go_ret
        exact ⟨ret_eq (by rw [HE.out, E2.out, Bool.and_false]; rfl), B2⟩
      have E2 := Lib.hid (show resOk res = true by unfold resOk; rw [E1.out, h2]; rfl)
      clear h2
      have c := bA.cell
      go_wp2
      go_loopw [3, 4, 5] (fun i _ _ wr => ∃ q : Nat, q ≤ ps.length ∧ i = .int .i64 q ∧ NoneTo (fun p => !paOk p) ps q ∧ nodupS ((ps.map Pa.name).take q) = true ∧ Below w2.heap.size w2 wr) (fun i _ _ _ => ps.length - (intOf i).toNat)
      case atStart => exact ⟨0, Nat.zero_le _, rfl, NoneTo.zero _ _, by simp [nodupS], Below.refl _ _⟩
      case round =>
        obtain ⟨q, hq, rfl, hst, hnd, hb⟩ := hrel
        have Bw := B2.trans (hb.mono B2.size)
        have fA := bA.call hb
        clear c
        have c := fA.cell
        by_cases hlt : q < ps.length
        · obtain ⟨x, hx⟩ : ∃ x, ps[q]? = some x := ⟨ps[q], List.getElem?_eq_getElem hlt⟩
          have hk0 : (0 : Int) ≤ (q : Int) := by omega
          have hk1 : (q : Int) < (ps.length : Int) := by omega
          obtain ⟨b, off, u0, u1, u2, u3, u4, rfl, -, hbl, hat, d0, d1, d2, d3, d4⟩ := rows_at5 Pa.len HV.out hx
          replace d0 := (Bw.cell (p := ⟨b, off + q * 5, none⟩) hbl).trans d0
          replace d1 := (Bw.cell (p := ⟨b, off + q * 5 + 1, none⟩) hbl).trans d1
          replace d2 := (Bw.cell (p := ⟨b, off + q * 5 + 2, none⟩) hbl).trans d2
          replace d3 := (Bw.cell (p := ⟨b, off + q * 5 + 3, none⟩) hbl).trans d3
          replace d4 := (Bw.cell (p := ⟨b, off + q * 5 + 4, none⟩) hbl).trans d4
          have HN := Lib.hid (And.intro hx (And.intro hst hnd))
          obtain ⟨pn, ⟨k', n', l', kids'⟩⟩ := x
          obtain ⟨v0, v1, v2, v3, v4, v5, v6, v7, e3, hpn, hty⟩ := Pa.open_ hat
          simp only [List.cons.injEq, and_true] at e3
          obtain ⟨rfl, rfl, rfl, rfl, rfl⟩ := e3
          obtain ⟨z0, z1, z2, z3, e4, -⟩ := Ty.open_ hty
          simp only [List.cons.injEq, and_true, Value.int.injEq, true_and, Value.string.injEq, Value.slice.injEq] at e4
          obtain ⟨rfl, rfl, ⟨rfl, rfl, rfl⟩, ⟨rfl, rfl, rfl⟩⟩ := e4
          have HT := Lib.hid (hty.below Bw)
          clear hx hst hnd hat hty
          go_wp2_with fail
          refine (l03Name_s pn hpn _).mono ?_
          rintro e w3 ⟨rfl, rfl⟩
          cases h3 : nameOk pn
          · have HB := Lib.hid (any_bad (p := fun p => !paOk p) HN.out.1 (by simp [paOk, h3]))
            clear h3
            go_wp2
            go_ret
            exact ⟨ret_eq (by rw [HE.out, E.out, HB.out]; rfl), by repeat (first | exact Bw | refine Below.alloc ?_ (by have := Bw.size; first | omega | (simp <;> omega)) _)⟩
          · have E3 := Lib.hid h3
            clear h3
            go_wp2_with fail
            refine (l03Ok_s (.mk v0 v1 l' kids') _ _ (HT.out.below ((Below.refl _ _).alloc (Nat.le_refl _) _))).mono ?_
            rintro e w4 ⟨rfl, hb4⟩
            obtain ⟨Bx4, bP⟩ := box1 (cA := [_, _, _, _, _]) hb4
            have B4 := Bw.trans (Bx4.mono Bw.size)
            have hb4' := hb.trans (Bx4.mono hb.size)
            have fA4 := fA.call Bx4
            clear c hb4 d0 d1 d2 d3 d4 HT
            have cP := bP.cell
            cases h4 : tyOk (.mk v0 v1 l' kids')
            · have HB := Lib.hid (any_bad (p := fun p => !paOk p) HN.out.1 (by simp [paOk, h4]))
              clear h4
              go_wp2
              go_ret
              exact ⟨ret_eq (by rw [HE.out, E.out, HB.out]; rfl), B4⟩
            · have E4 := Lib.hid h4
              clear h4
              cases h5 : (v0 == 1)
              case true =>
                have HB := Lib.hid (any_bad (p := fun p => !paOk p) HN.out.1 (by simp only [paOk, show isU (.mk v0 v1 l' kids') = true from h5]; simp))
                go_wp2
                go_ret
                exact ⟨ret_eq (by rw [HE.out, E.out, HB.out]; rfl), B4⟩
              have HG := Lib.hid (HN.out.2.1.next HN.out.1 (by simp only [paOk, show isU (.mk v0 v1 l' kids') = false from h5, E3.out, E4.out]; rfl))
              have HM : ((ps.map Pa.name))[q]? = some pn := by rw [List.getElem?_map, HN.out.1]; rfl
              have HMM := Lib.hid HM
              clear HM
              go_wp2
              go_loopw [5] (fun j wr2 => ∃ k : Nat, k ≤ q ∧ j = .int .i64 k ∧ NoneTo (fun y => sameS y pn) (ps.map Pa.name) k ∧ Below w4.heap.size w4 wr2) (fun i _ => q - (intOf i).toNat)
              case atStart => exact ⟨0, Nat.zero_le _, rfl, NoneTo.zero _ _, Below.refl _ _⟩
              case round =>
                obtain ⟨j, hj, rfl, hst2, hb5⟩ := hrel
                clear cP
                have B5 := B4.trans (hb5.mono B4.size)
                have hb5' := hb4'.trans (hb5.mono hb4'.size)
                by_cases hltj : j < q
                · have hlj : j < ps.length := by omega
                  obtain ⟨y, hy⟩ : ∃ y, ps[j]? = some y := ⟨ps[j], List.getElem?_eq_getElem hlj⟩
                  have hj0 : (0 : Int) ≤ (j : Int) := by omega
                  have hj1 : (j : Int) < (ps.length : Int) := by omega
                  obtain ⟨b', off', y0, y1, y2, y3, y4, hA, -, hbl', hat', g0, -⟩ := rows_at5 Pa.len HV.out hy
                  obtain ⟨rfl, rfl⟩ : b = b' ∧ off = off' := by simpa using hA
                  obtain ⟨x0, x1, x2, x3, x4, x5, x6, x7, e3, -, -⟩ := Pa.open_ hat'
                  simp only [List.cons.injEq, and_true] at e3
                  obtain ⟨rfl, -⟩ := e3
                  replace g0 := cell_regrown ((B5.cell (p := ⟨b, off + j * 5, none⟩) hbl).trans g0)
                  have cA := ((fA4.call hb5).cell)
                  have cB := ((bP.call hb5).cell)
                  have f0 := cell_regrown (show wr.cell? ⟨w.heap.size, 0, none⟩ = some (.slice (some ⟨b, off, none⟩) ps.length d) from cA 0)
                  have HY : ((ps.map Pa.name))[j]? = some y.name := by rw [List.getElem?_map, hy]; rfl
                  have HN2 := Lib.hid (And.intro HY hst2)
                  clear HY hy hst2 hA hat'
                  have fP := cell_regrown (show World.cell? _ _ = some (.string pn) from cB 0)
                  cases hs : (y.name.toList == pn.toList)
                  · have HC := Lib.hid (HN2.out.2.next HN2.out.1 (show sameS y.name pn = false from hs))
                    go_wp2_with fail
                    refine wp_region_quiet_below (by kernel_rfl) (by kernel_rfl) ?_
                    repeat (first | go_big_quiet_step (fail) | quiet_step (fail))
                    refine wpQuiet_nil ?_
                    intro w6 hw6
                    have hb6 := hb5.trans ((below_of_regrown hw6).mono hb5.size)
                    clear hw6 g0 f0 fP cA cB
                    go_wp2
                    go_roundw
                    case rel => exact ⟨j + 1, by omega, by go_num, HC.out, hb6⟩
                    case measure => simp [intOf]; omega
                  · have HC := Lib.hid (nodupS_take (l := ps.map Pa.name) (q := q + 1) (by
                      rw [nodupS_next HMM.out, any_bad (p := fun y => sameS y pn) (k := j) (by rw [List.getElem?_take_of_lt hltj]; exact HN2.out.1) hs]; simp))
                    go_wp2_with fail
                    refine wp_region_quiet_below (by kernel_rfl) (by kernel_rfl) ?_
                    repeat (first | go_big_quiet_step (fail) | quiet_step (fail))
                    refine wpQuiet_nil ?_
                    intro w6 hw6
                    have B6 := B5.trans ((below_of_regrown hw6).mono B5.size)
                    clear hw6 g0 f0 fP cA cB
                    go_wp2
                    go_ret
                    exact ⟨ret_eq (by rw [HE.out, E.out, HC.out, Bool.and_false]; rfl), B6⟩
                · obtain rfl : j = q := by omega
                  have HC := Lib.hid (show nodupS ((ps.map Pa.name).take (j + 1)) = true by rw [nodupS_next HMM.out, HN.out.2.2]; unfold NoneTo at hst2; rw [hst2]; rfl)
                  clear hst2
                  go_wp2
                  go_roundw
                  case rel => exact ⟨j + 1, by omega, by go_num, HG.out, HC.out, hb5'⟩
                  case measure => simp [intOf]; omega
        · obtain rfl : q = ps.length := by omega
          rw [show (ps.map Pa.name).take ps.length = ps.map Pa.name from List.take_of_length_le (by simp)] at hnd
          have HB := Lib.hid (And.intro hst.end_ hnd)
          clear hst hnd
          go_wp2
          go_ret
          exact ⟨ret_eq (by rw [HE.out, E.out, HB.out.1, HB.out.2, E2.out]; rfl), Bw⟩
end Go.Proofs.YtoioljkhinodaaaGreatDoor
namespace Go.Proofs.YtoioljkhinodaaaGreatDoor
open Go.RowKit Go.Shelf

theorem info_str'' : (Tryz.prog.info? 9).map (fun i => (i.zero, i.size, i.bytes)) = some (some (.string ⟨#[]⟩), 1, 16) := by kernel_rfl
/-- Append of one text, just laid in a block of its own, to a row of texts that the call owns. -/
theorem wpList_str {w1 : World} {ops : Array Oper} {rest : List Oper} {o : Oper} {a : Act} {Q : Exit → Act → World → Prop} {base : Nat} {v : Value} {n : Nat} {l : List ByteArray} {fz : Nat × Nat}
    (hown : w1.ownsRow base 9 1 v n (l.map Value.string)) (c : ByteArray) (s x : Operand)
    (hn : n + 1 ≤ 8796093022208) (hbase : base ≤ w1.heap.size) (g : Nat) (hg : w1.heap.size = g)
    (h : ∀ v' w', w'.ownsRow base 9 1 v' (n + 1) ((l ++ [c]).map Value.string) → Below base w1 w' → wpList Tryz.prog ops Q rest (a.put o.dst v') w')
    (hgd : o.guard = none := by exact rfl) (ho : o.op = .call { callee := .builtin .append, args := #[s, x], argTypes := #[22, 22] } := by exact rfl)
    (hs : a.eval s = v := by exact rfl) (hx : a.eval x = .slice (some ⟨g, 0, none⟩) 1 1 := by exact rfl) :
    wpList Tryz.prog ops Q (o :: rest) a (w1.alloc (.cells #[.string c] 9 fz)) := by
  subst hg
  obtain ⟨i0, hi, hz0, hz1, hz2⟩ := info_parts info_str''
  refine wpList_append_own _ hgd s x 22 ho base 9 i0 (.string ⟨#[]⟩) 1 16 Tryz.underlying22 hi hz0 hz1 hz2 rfl (by decide) v n (l.map Value.string) hs (hown.alloc _)
    ⟨w1.heap.size, 0, none⟩ 1 1 [.string c] hx rfl ?_ ?_ (by simp only [maxLen]; omega) (by omega) (by simp; omega) ?_
  · intro j u hj
    match j, hj with
    | 0, hj =>
      simp at hj
      subst hj
      rw [Addr.add_lit, cell_of_row _ _ _ _ _ _ (heap_alloc_new w1 _)]
      rfl
  · intro u hu
    simp at hu
    subst hu
    rfl
  · intro v' w' h1 h2 _
    refine h v' w' (by simpa using h1) ?_
    have hb : Below base w1 (w1.alloc (.cells #[.string c] 9 fz)) := (Below.refl _ _).alloc hbase _
    exact hb.grown h2 (by simp; omega) (fun k hk => (hown.lt k hk).1)
theorem own_form {w : World} {base : Nat} {e : TypeId} {v : Value} {n : Nat} {xs : List Value} (ho : w.ownsRow base e 1 v n xs) (hn : 0 < n) : ∃ g cap, v = .slice (some ⟨g, 0, none⟩) n cap ∧ n ≤ cap ∧ cap ≤ maxLen ∧ g < w.heap.size := by
  rcases ho.2 with ⟨_, h⟩ | ⟨g, cap, cur, h, _, hg, h1, h2, _⟩
  · omega
  · exact ⟨g, cap, h, h1, h2, (Array.getElem?_eq_some_iff.1 hg).1⟩

set_option maxHeartbeats 1000000 in
set_option maxRecDepth 20000 in
theorem distinct_zero (b off cap : Nat) (w : World) (hb : b < w.heap.size) :
    Calls Tryz.prog 107 #[.slice (some ⟨b, off, none⟩) 0 cap] w fun e w' => e = .returned (.bool true) ∧ Below w.heap.size w w' := by
  go_enter Tryz.func107, Tryz.ntmps107
  go_wp2_with fail
  refine (sqvalues_any _ _ _ _).mono ?_
  rintro e w1 ⟨rfl, rfl⟩
  go_wp2_with fail
  refine (sqsortedValues w.heap.size b off 0 cap [] rfl (by omega) _ (by simp) (by simp; omega) (Box.cell (cs := [_]) (Box.new w _ [.slice (some ⟨b, off, none⟩) 0 cap]) 0)
    (fun j hj => absurd hj (by omega))).mono ?_
  rintro e w2 ⟨v, rfl, hown, hbel⟩
  have Bw : Below w.heap.size w w2 := ((Below.refl _ w).alloc (Nat.le_refl _) _).trans (hbel.mono (by simp))
  clear hbel
  rcases hown.2 with ⟨rfl, hz⟩ | ⟨g, cap', cur, rfl, hbase, hgb, r1, r2, r3, r4⟩
  · clear hown
    go_wp2_with fail
    refine (Tryz.slices_Compact_string_empty none 0 w2).mono ?_
    rintro e w3 ⟨rfl, rfl⟩
    go_wp2
    go_ret
    exact ⟨rfl, Bw⟩
  · clear hown hgb r1 r2 r3 r4
    go_wp2_with fail
    refine (Tryz.slices_Compact_string_empty (some ⟨g, 0, none⟩) cap' w2).mono ?_
    rintro e w3 ⟨rfl, rfl⟩
    go_wp2
    go_ret
    exact ⟨rfl, Bw⟩
theorem distinct_own (l : List ByteArray) (g cap base : Nat) (w : World) (ho : w.ownsRow base 9 1 (.slice (some ⟨g, 0, none⟩) l.length cap) l.length (l.map Value.string)) (h16 : l.length ≤ 1000) :
    Calls Tryz.prog 107 #[.slice (some ⟨g, 0, none⟩) l.length cap] w fun e w' => e = .returned (.bool (nodupS l)) ∧ Below w.heap.size w w' := by
  have hg : g < w.heap.size := by
    rcases ho.2 with ⟨h, _⟩ | ⟨g', cap', cur, h, _, hg, _⟩
    · cases h
    · cases h; exact (Array.getElem?_eq_some_iff.1 hg).1
  by_cases h0 : l.length = 0
  · have e : l = [] := List.eq_nil_of_length_eq_zero h0
    subst e
    exact distinct_zero g 0 cap w hg
  · have hc : ∀ j, j < l.length → w.cell? ⟨g, 0 + j, none⟩ = some (encStr ((l.map (·.data.toList))[j]?.getD [])) := by
      intro j hj
      have := ho.cells (g := g) rfl j (.string l[j]) (by rw [List.getElem?_map, List.getElem?_eq_getElem hj]; rfl)
      rw [Addr.add_lit] at this
      rw [this]
      simp [hj]
    have := distinct_core g 0 l.length cap _ _ (l.map (·.data.toList)) _ rfl rfl rfl (by simp) (by omega) h16 w hg hc
    have e : (((Lib.compact ((l.map (·.data.toList)).mergeSort fun x y => decide (x ≤ y))).length : Int) == (l.length : Int)) = nodupS l := by
      rw [Bool.eq_iff_iff, beq_iff_eq, distinct_law]
    rw [e] at this
    exact this
end Go.Proofs.YtoioljkhinodaaaGreatDoor
namespace Go.Proofs.YtoioljkhinodaaaGreatDoor
open Go.RowKit Go.Shelf

theorem isUnit_c (x : Ty) (cs : List Value) (w : World) (h : D.Ats w anyB x.ds cs) : Calls Tryz.prog 106 #[.agg cs.toArray] w fun e w' => e = .returned (.bool (isU x)) ∧ Below w.heap.size w w' := isUnit_i x cs w trivial h
set_option maxHeartbeats 4000000 in
set_option maxRecDepth 20000 in
theorem paramsOk_i (ps : List Pa) (B : Option Addr) (d : Nat) (w : World) (hv : D.At w anyB (rows Pa.ds 5 ps) (.slice B ps.length d)) (hpb : ∀ p ∈ ps, p.ty.parts ≤ 2000000) (hlb : ps.length ≤ 1048576) :
    Calls Tryz.prog 77 #[.slice B ps.length d] w fun e w' => e = .returned (.bool (pasOk ps)) ∧ Below w.heap.size w w' := by
  obtain ⟨-, hn, hc⟩ := rows_bound hv
  unfold maxLen at hc
  have HV := Lib.hid hv
  have HPB := Lib.hid hpb
  clear hv hpb
  go_enter Tryz.func77, Tryz.ntmps77
  go_wp2
  go_loopw [3, 5, 9] (fun v _ i wr => ∃ k : Nat, k ≤ ps.length ∧ i = .int .i64 k ∧ wr.ownsRow w.heap.size 9 1 v k (((ps.take k).map Pa.name).map Value.string) ∧ (∃ g c, v = .slice (some ⟨g, 0, none⟩) k c) ∧ NoneTo (fun p => !paOk p) ps k ∧ Below w.heap.size w wr) (fun _ _ i _ => ps.length - (intOf i).toNat)
  case atStart => exact ⟨0, Nat.zero_le _, rfl, World.ownsRow_lit _ _ _ (Nat.le_refl _) (by decide) (by rfl), ⟨_, _, rfl⟩, NoneTo.zero _ _, (Below.refl _ _).alloc (Nat.le_refl _) _⟩
  case round =>
    obtain ⟨k, hk, rfl, hown, ⟨g, cg, rfl⟩, hst, hb⟩ := hrel
    by_cases hlt : k < ps.length
    · obtain ⟨x, hx⟩ : ∃ x, ps[k]? = some x := ⟨ps[k], List.getElem?_eq_getElem hlt⟩
      have hk0 : (0 : Int) ≤ (k : Int) := by omega
      have hk1 : (k : Int) < (ps.length : Int) := by omega
      obtain ⟨b, off, u0, u1, u2, u3, u4, rfl, -, hbl, hat, d0, d1, d2, d3, d4⟩ := rows_at5 Pa.len HV.out hx
      replace d0 := (hb.cell (p := ⟨b, off + k * 5, none⟩) hbl).trans d0
      replace d1 := (hb.cell (p := ⟨b, off + k * 5 + 1, none⟩) hbl).trans d1
      replace d2 := (hb.cell (p := ⟨b, off + k * 5 + 2, none⟩) hbl).trans d2
      replace d3 := (hb.cell (p := ⟨b, off + k * 5 + 3, none⟩) hbl).trans d3
      replace d4 := (hb.cell (p := ⟨b, off + k * 5 + 4, none⟩) hbl).trans d4
      have HN := Lib.hid (And.intro hx hst)
      have hpx := HPB.out x (List.mem_of_getElem? hx)
      obtain ⟨pn, ty⟩ := x
      obtain ⟨v0, v1, v2, v3, v4, v5, v6, v7, e3, hpn, hty⟩ := Pa.open_ hat
      simp only [List.cons.injEq, and_true] at e3
      obtain ⟨rfl, rfl, rfl, rfl, rfl⟩ := e3
      simp only at hpn hty hpx
      have HT := Lib.hid (hty.below hb)
      have HO := Lib.hid hown
      have HNX := Lib.hid (show (ps.take (k + 1)).map Pa.name = (ps.take k).map Pa.name ++ [pn] by rw [List.take_add_one, hx]; simp)
      clear hx hst hat hty hown
      go_wp2_with fail
      refine (nameOk_i pn hpn _).mono ?_
      rintro e w3 ⟨rfl, hb3⟩
      obtain ⟨Bx3, bP⟩ := box1 (cA := [_, _, _, _, _]) hb3
      have B3 := hb.trans (Bx3.mono hb.size)
      clear hb3 d0 d1 d2 d3 d4
      have c := bP.cell
      cases h3 : nameOk pn
      · have HB := Lib.hid (show pasOk ps = false by unfold pasOk; rw [any_bad (p := fun p => !paOk p) HN.out.1 (by simp [paOk, h3])]; simp)
        clear h3
        go_wp2
        go_ret
        exact ⟨ret_eq (by rw [HB.out]; rfl), B3⟩
      have E3 := Lib.hid h3
      clear h3
      go_wp2_with fail
      refine (typeOk_i ty _ _ (HT.out.below Bx3) hpx).mono ?_
      rintro e w4 ⟨rfl, hb4⟩
      have Bx4 := Bx3.trans (hb4.mono Bx3.size)
      have B4 := hb.trans (Bx4.mono hb.size)
      replace bP := bP.call hb4
      clear c hb4
      have c := bP.cell
      cases h4 : tyOk ty
      · have HB := Lib.hid (show pasOk ps = false by unfold pasOk; rw [any_bad (p := fun p => !paOk p) HN.out.1 (by simp [paOk, h4])]; simp)
        clear h4
        go_wp2
        go_ret
        exact ⟨ret_eq (by rw [HB.out]; rfl), B4⟩
      have E4 := Lib.hid h4
      clear h4
      go_wp2_with fail
      refine (isUnit_c ty _ _ (HT.out.below Bx4)).mono ?_
      rintro e w5 ⟨rfl, hb5⟩
      have Bx5 := Bx4.trans (hb5.mono Bx4.size)
      have B5 := hb.trans (Bx5.mono hb.size)
      replace bP := bP.call hb5
      clear c hb5
      have c := bP.cell
      cases h5 : isU ty
      case true =>
        have HB := Lib.hid (show pasOk ps = false by unfold pasOk; rw [any_bad (p := fun p => !paOk p) HN.out.1 (by simp [paOk, h5])]; simp)
        clear h5
        go_wp2
        go_ret
        exact ⟨ret_eq (by rw [HB.out]; rfl), B5⟩
      have HG := Lib.hid (HN.out.2.next HN.out.1 (by simp only [paOk, h5, E3.out, E4.out]; rfl))
      have hown5 := own_call HO.out Bx5
      have hl2 : k + 1 ≤ 8796093022208 := by omega
      have hbs := B5.size
      have HBB := Lib.hid B5
      clear h5 hb Bx3 Bx4 Bx5 B3 B4 B5
      go_wp2_with (at_builtin; refine wpList_str hown5 pn (.tmp 28) (.tmp 31) hl2 hbs w5.heap.size rfl ?_; intro v' w' ho' hb')
      have hb6 := HBB.out.trans hb'
      obtain ⟨g', c', rfl, -⟩ := own_form ho' (by omega)
      clear hown5 hb'
      go_wp2
      go_roundw
      case rel => exact ⟨k + 1, by omega, by go_num, by rw [HNX.out]; exact ho', ⟨_, _, rfl⟩, HG.out, hb6⟩
      case measure => simp [intOf]; omega
    · obtain rfl : k = ps.length := by omega
      have HG := Lib.hid hst.end_
      rw [show ps.take ps.length = ps from List.take_of_length_le (by omega)] at hown
      have HO := Lib.hid hown
      clear hst hown
      by_cases h6 : (ps.length : Int) ≤ 6
      · have HD := Lib.hid (distinct_own (ps.map Pa.name) g cg w.heap.size wr (by simpa using HO.out) (by simp; omega))
        have E := Lib.hid (show pasOk ps = nodupS (ps.map Pa.name) by unfold pasOk; rw [HG.out, show decide (ps.length ≤ 6) = true from decide_eq_true (by omega)]; rfl)
        rw [show (ps.map Pa.name).length = ps.length from by simp] at HD
        go_wp2_with fail
        refine HD.out.mono ?_
        rintro e w2 ⟨rfl, hb2⟩
        have B2 := hb.trans (hb2.mono hb.size)
        go_wp2
        go_ret
        exact ⟨ret_eq (by rw [E.out]; rfl), B2⟩
      · have E := Lib.hid (show pasOk ps = false by unfold pasOk; rw [show decide (ps.length ≤ 6) = false from decide_eq_false (by omega)]; rfl)
        go_wp2
        go_ret
        exact ⟨ret_eq (by rw [E.out]; rfl), hb⟩

set_option maxHeartbeats 1000000 in
set_option maxRecDepth 20000 in
theorem funcOk_s (x : Fn) (cs : List Value) (w : World) (hcs : D.Ats w anyB x.ds cs) :
    Calls Tryz.prog 38 #[.agg cs.toArray] w fun e w' => e = .returned (.bool (fnOk x)) ∧ Below w.heap.size w w' := by
  have HX := Lib.hid hcs
  obtain ⟨B, e0, d, k, n, A, m, c0, A', m', c1, ab, rfl⟩ := Fn.form hcs
  clear hcs
  go_enter Tryz.func38, Tryz.ntmps38
  go_wp2_with fail
  refine (l03Func_s x _ _ (HX.out.below ((Below.refl _ _).alloc (Nat.le_refl _) _))).mono ?_
  rintro e w1 ⟨rfl, hb1⟩
  obtain ⟨B1, -⟩ := box1 (cA := [_, _, _, _, _, _]) hb1
  go_wp2
  go_ret
  exact ⟨rfl, B1⟩

theorem Fn.bounds {x : Fn} (h : D.totals x.ds ≤ 1048576) : (∀ p ∈ x.params, p.ty.parts ≤ 2000000) ∧ x.params.length ≤ 1048576 ∧ x.res.parts ≤ 2000000 := by
  have e : D.totals x.ds = (rows Pa.ds 5 x.params).total + (D.totals x.res.ds + D.totals [.bool x.async]) := by
    unfold Fn.ds
    show _ + D.totals (x.res.ds ++ [.bool x.async]) = _
    rw [D.totals_append]
  rw [rows_total] at e
  refine ⟨fun p hp => ?_, by omega, ?_⟩
  · have h1 := totals_mem (f := Pa.ds) hp
    have h2 : D.totals p.ty.ds ≤ D.totals p.ds := by
      show _ ≤ _ + D.totals p.ty.ds
      omega
    have h3 := Ty.parts_total p.ty
    omega
  · have h3 := Ty.parts_total x.res
    omega

set_option maxHeartbeats 1000000 in
set_option maxRecDepth 20000 in
theorem funcOk_i (x : Fn) (cs : List Value) (w : World) (hcs : D.Ats w anyB x.ds cs) (ht : D.totals x.ds ≤ 1048576) :
    Calls Tryz.prog 41 #[.agg cs.toArray] w fun e w' => e = .returned (.bool (fnOk x)) ∧ Below w.heap.size w w' := by
  have HT := Lib.hid (Fn.bounds ht)
  obtain ⟨ps, res, async⟩ := x
  obtain ⟨B, d, k, n, A, m, c0, A', m', c1, rfl, hp, hr⟩ := Fn.open_ hcs
  simp only at hp hr
  have HV := Lib.hid hp
  have HR := Lib.hid hr
  have HE := Lib.hid (show fnOk ⟨ps, res, async⟩ = (pasOk ps && (tyOk res && !(res.has fun q => q == 21))) from rfl)
  clear hcs hp hr ht
  go_enter Tryz.func41, Tryz.ntmps41
  go_wp2_with fail
  refine (paramsOk_i ps _ _ _ (HV.out.below ((Below.refl _ _).alloc (Nat.le_refl _) _)) HT.out.1 HT.out.2.1).mono ?_
  rintro e w1 ⟨rfl, hb1⟩
  obtain ⟨B1, bA⟩ := box1 (cA := [_, _, _, _, _, _]) hb1
  clear hb1
  have c := bA.cell
  cases h1 : pasOk ps
  · have E1 := Lib.hid h1
    clear h1 c
    go_wp2
    go_ret
    exact ⟨ret_eq (by rw [HE.out, E1.out]; rfl), B1⟩
  have E1 := Lib.hid h1
  clear h1
  go_wp2_with fail
  refine (typeOk_i res _ _ (HR.out.below B1) HT.out.2.2).mono ?_
  rintro e w2 ⟨rfl, hb2⟩
  have B2 := B1.trans (hb2.mono B1.size)
  replace bA := bA.call hb2
  clear c hb2
  have c := bA.cell
  cases h2 : tyOk res
  · have E2 := Lib.hid h2
    clear h2 c
    go_wp2
    go_ret
    exact ⟨ret_eq (by rw [HE.out, E1.out, E2.out]; rfl), B2⟩
  have E2 := Lib.hid h2
  clear h2
  have lA := bA.lt
  go_wp2_with fail
  refine (hasKind_i [21] res _ _ _ _ (kinds1 _ 21 (by omega) _) (HR.out.below (B2.alloc B2.size _))).mono ?_
  rintro e w3 ⟨rfl, hb3⟩
  have B3 := (B2.alloc B2.size _).trans (hb3.mono (Nat.le_trans B2.size (by simp)))
  rw [mem21]
  clear c hb3
  cases h3 : res.has fun q => q == 21
  all_goals
    have E3 := Lib.hid h3
    clear h3
    go_wp2
    go_ret
    exact ⟨ret_eq (by rw [HE.out, E1.out, E2.out, E3.out]; rfl), B3⟩
end Go.Proofs.YtoioljkhinodaaaGreatDoor
