/- FuncIn on both sides, as the law wants it. -/
import Derived.Test.YtpfkhojhkjaafaaGreatDoorFnN
import Derived.Test.YtpfkhojhkjaafaaGreatDoorPkOw
import Derived.Test.YtpfkhojhkjaafaaGreatDoorFaI
import Derived.Test.YtpfkhojhkjaafaaGreatDoorSepIn
import Derived.Deep.DeepCutAuto
namespace Go.Proofs.YtpfkhojhkjaafaaGreatDoor
open Go.RowKit

def zFn : Fn := ⟨[], .mk 0 ⟨#[]⟩ [] [], false⟩
/-- The type of a function of an interface, or none. -/
def fnIn (x : Fa) (s : ByteArray) : Fn × Bool := if faceOk x = true then (match fnAt x.funcs s with | none => (zFn, false) | some q => (match x.funcs[q]? with | none => (zFn, false) | some u => (u.ty, true))) else (zFn, false)
theorem fnIn_bad {x : Fa} {s : ByteArray} (h : faceOk x = false) : fnIn x s = (zFn, false) := by unfold fnIn; rw [if_neg (by rw [h]; decide)]
theorem fnIn_none {x : Fa} {s : ByteArray} (h : faceOk x = true) (hn : fnAt x.funcs s = none) : fnIn x s = (zFn, false) := by unfold fnIn; rw [if_pos h, hn]
theorem fnIn_some {x : Fa} {s : ByteArray} {q : Nat} {u : Fu} (h : faceOk x = true) (hn : fnAt x.funcs s = some q) (hu : x.funcs[q]? = some u) : fnIn x s = (u.ty, true) := by unfold fnIn; rw [if_pos h, hn]; simp only [hu]
theorem fu_total {x : Fa} {q : Nat} {u : Fu} (h : D.totals x.ds ≤ 4194304) (hu : x.funcs[q]? = some u) : D.totals u.ty.ds ≤ 4194304 := by
  have e : D.totals x.ds = x.pkg.size + (x.name.size + (x.ver.size + ((strs x.owns).total + ((rows Fu.ds 7 x.funcs).total + 0)))) := by simp [Fa.ds, D.totals, D.total]
  have e2 : (rows Fu.ds 7 x.funcs).total = x.funcs.length + D.totals (x.funcs.flatMap Fu.ds) := rows_total ..
  have h1 := totals_mem (f := Fu.ds) (List.mem_of_getElem? hu)
  have h2 : D.totals (Fu.ds u) = u.name.size + D.totals u.ty.ds := by simp [Fu.ds, D.totals, D.total]
  omega
theorem zFn_seps {w : World} {lo : Nat} : SepsIn w lo lo zFn.ds [.slice none 0 0, .int .i64 0, .string ⟨#[]⟩, .slice none 0 0, .slice none 0 0, .bool false] := by
  have hn : ∀ {α : Type} (f : α → List D) (size : Nat), SepIn w lo lo (rows f size ([] : List α)) (.slice none 0 0) := fun f size => ⟨Nat.le_refl _, [], D.Sep.empty (Nat.zero_le _), List.nodup_nil, fun b hb => by cases hb⟩
  unfold zFn Fn.ds
  simp only [Ty.ds_eq, List.cons_append, List.nil_append]
  exact SepsIn.cons (hn Pa.ds 5) (SepsIn.cons (SepIn.int (by omega)) (SepsIn.cons (SepIn.str (by decide)) (SepsIn.cons (hn strD 1) (SepsIn.cons (hn Ty.ds 4) (SepsIn.cons SepIn.bool (SepsIn.nil (Nat.le_refl _)))))))
def RetIn (r : Fn × Bool) (w : World) (e : Ending) (w' : World) : Prop := ∃ cs, e = .returned (.tuple #[.agg cs.toArray, .bool r.2]) ∧ SepsIn w' w.heap.size w'.heap.size r.1.ds cs ∧ Below w.heap.size w w'
set_option maxHeartbeats 4000000 in
set_option maxRecDepth 20000 in
theorem idxFu (s : ByteArray) (g : Nat) (L : List Fu) (A : Option Addr) (cap : Nat) (w : World) (hg : Box w g 9 [.string s]) (hv : D.At w anyB (rows Fu.ds 7 L) (.slice A L.length cap)) :
    Calls Tryz.prog 86 #[.slice A L.length cap, .func (.func 87) #[] #[.pointer (some ⟨g, 0, none⟩)]] w fun e w' => e = .returned (.int .i64 (idxI (fnAt L s))) ∧ Below w.heap.size w w' := by
  obtain ⟨-, hn, hc⟩ := rows_bound hv
  unfold maxLen at hc
  have HV := Lib.hid hv
  have HG := Lib.hid hg
  have hF : ∀ args w, (callFunc 87 args).run Tryz.prog w = .ok (.enter 87 args) w := enters_of Tryz.func87 (by kernel_rfl) rfl
  clear hv hg
  go_enter Tryz.func86, Tryz.ntmps86
  go_wp2
  go_loopw [5, 8] (fun _ i wr => ∃ k : Nat, k ≤ L.length ∧ i = .int .i64 k ∧ IdxTo (L.map Fu.name) s k ∧ Below w.heap.size w wr) (fun _ i _ => L.length - (intOf i).toNat)
  case atStart => exact ⟨0, Nat.zero_le _, rfl, IdxTo.zero _ _, Below.refl _ _⟩
  case round =>
    obtain ⟨k, hk, rfl, hst, hb⟩ := hrel
    by_cases hlt : k < L.length
    · obtain ⟨x, hx⟩ : ∃ x, L[k]? = some x := ⟨L[k], List.getElem?_eq_getElem hlt⟩
      have hk0 : (0 : Int) ≤ (k : Int) := by omega
      have hk1 : (k : Int) < (L.length : Int) := by omega
      obtain ⟨b, off, u0, u1, u2, u3, u4, u5, u6, e, -, hbl, hat, c0, c1, c2, c3, c4, c5, c6⟩ := rows_at7 Fu.len (HV.out.below hb) hx
      subst e
      have HX := Lib.hid (fnName_i x s g _ wr hat (HG.out.call hb))
      have HN := Lib.hid (And.intro (map_name hx) hst)
      obtain ⟨e0, e1, e2, e3, e4, e5, e6, e7, e8, e9, e10, e11, exx, -, -⟩ := Fu.open_ hat
      simp only [List.cons.injEq, and_true] at exx
      obtain ⟨rfl, rfl, rfl, rfl, rfl, rfl, rfl⟩ := exx
      clear hx hst hat
      go_wp2_with fail
      refine HX.out.mono ?_
      rintro e w2 ⟨rfl, hb1⟩
      have hb2 := hb.trans (hb1.mono hb.size)
      clear hb1 c0 c1 c2 c3 c4 c5 c6
      cases hs : (x.name.toList == s.toList)
      · have HB := Lib.hid (HN.out.2.next HN.out.1 hs)
        clear hs
        go_wp2
        go_roundw
        case rel => exact ⟨k + 1, by omega, by go_num, HB.out, hb2⟩
        case measure => simp [intOf]; omega
      · have HB := Lib.hid (HN.out.2.hit HN.out.1 hs)
        clear hs
        go_wp2
        go_ret
        exact ⟨ret_eq (by unfold fnAt; rw [HB.out]; rfl), hb2⟩
    · obtain rfl : k = L.length := by omega
      have HB := Lib.hid (show idxS (L.map Fu.name) s = none from IdxTo.none (by rw [List.length_map]; exact hst))
      clear hst
      go_wp2
      go_ret
      exact ⟨ret_eq (by unfold fnAt; rw [HB.out]; rfl), hb⟩

/-- The type found, as it lies in the argument; or nothing. -/
def RetFi (x : Fa) (s : ByteArray) (w : World) (e : Ending) (w' : World) : Prop := Below w.heap.size w w' ∧
  ((fnAt x.funcs s = none ∧ e = .returned (.tuple #[.agg #[.slice none 0 0, .int .i64 0, .string ⟨#[]⟩, .slice none 0 0, .slice none 0 0, .bool false], .bool false])) ∨ ∃ q u cs, fnAt x.funcs s = some q ∧ x.funcs[q]? = some u ∧ D.Ats w' anyB u.ty.ds cs ∧ e = .returned (.tuple #[.agg cs.toArray, .bool true]))
set_option maxHeartbeats 4000000 in
set_option maxRecDepth 20000 in
theorem funcIn_i (x : Fa) (s : ByteArray) (cs : List Value) (w : World) (hcs : D.Ats w anyB x.ds cs) :
    Calls Tryz.prog 39 #[.agg cs.toArray, .string s] w (RetFi x s w) := by
  have HX := Lib.hid hcs
  obtain ⟨p0, p1, p2, AO, nO, cO, AF, nF, cF, rfl⟩ := Fa.form hcs
  have hN : nF = x.funcs.length := by
    obtain ⟨A1, a1, A2, a2, e, -⟩ := Fa.open_ hcs
    simp only [List.cons.injEq, Value.slice.injEq, and_true] at e
    exact e.2.2.2.2.2.1
  clear hcs
  obtain ⟨w0, hw0⟩ : ∃ w0, w0 = ((w.alloc (.cells #[.string p0, .string p1, .string p2, .slice AO nO cO, .slice AF nF cF] 37)).alloc (.cells #[.string s] 9)).alloc (.cells #[.slice none 0 0, .int .i64 0, .string ⟨#[]⟩, .slice none 0 0, .slice none 0 0, .bool false] 32) := ⟨_, rfl⟩
  have B0 : Below w.heap.size w w0 := by rw [hw0]; exact (((Below.refl _ _).alloc (Nat.le_refl _) _).alloc (by simp) _).alloc (by simp; omega) _
  have bA : Box w0 w.heap.size 37 [.string p0, .string p1, .string p2, .slice AO nO cO, .slice AF nF cF] := by rw [hw0]; exact ((Box.new w _ _).alloc _).alloc _
  have bS : Box w0 (w.heap.size + 1) 9 [.string s] := by rw [hw0]; have := Box.new (w.alloc (.cells #[.string p0, .string p1, .string p2, .slice AO nO cO, .slice AF nF cF] 37)) 9 [.string s]; simp only [World.size_alloc] at this; exact this.alloc _
  have bR : Box w0 (w.heap.size + 2) 32 [.slice none 0 0, .int .i64 0, .string ⟨#[]⟩, .slice none 0 0, .slice none 0 0, .bool false] := by rw [hw0]; have := Box.new ((w.alloc (.cells #[.string p0, .string p1, .string p2, .slice AO nO cO, .slice AF nF cF] 37)).alloc (.cells #[.string s] 9)) 32 [.slice none 0 0, .int .i64 0, .string ⟨#[]⟩, .slice none 0 0, .slice none 0 0, .bool false]; simpa using this
  have hfs : D.At w anyB (rows Fu.ds 7 x.funcs) (.slice AF nF cF) := by
    obtain ⟨A1, a1, A2, a2, e, -, -, -, -, h5⟩ := Fa.open_ HX.out
    simp only [List.cons.injEq, Value.slice.injEq, and_true] at e
    obtain ⟨-, -, -, -, rfl, rfl, rfl⟩ := e
    exact h5
  subst hN
  obtain ⟨-, hn, hc⟩ := rows_bound hfs
  unfold maxLen at hc
  have HC := Lib.hid (idxFu s (w.heap.size + 1) x.funcs AF cF w0 bS (hfs.below B0))
  have HV := Lib.hid hfs
  have HB := Lib.hid (And.intro B0 (And.intro bA bR))
  have kA := bA.cell
  obtain ⟨r, hr⟩ : ∃ r, fnAt x.funcs s = r := ⟨_, rfl⟩
  rw [hr] at HC
  have HR := Lib.hid hr
  clear bA bS bR B0 hfs hr
  go_enter Tryz.func39, Tryz.ntmps39
  go_upto_region 1 with fail
  rw [← hw0]
  clear hw0
  go_wp2_with fail
  refine HC.out.mono ?_
  rintro e w1 ⟨rfl, hb1⟩
  have bA := HB.out.2.1.call hb1
  have bR := HB.out.2.2.call hb1
  have HB1 := Lib.hid (HB.out.1.trans (hb1.mono HB.out.1.size))
  have kR := bR.cell
  have fR := bR.frozen
  have lR := bR.lt
  clear kA
  have kA := bA.cell
  clear hb1 bA bR
  cases r with
  | none =>
    have hz : idxI none = -1 := rfl
    rw [hz]
    go_wp2
    refine bodyPost_ret (v := .tuple #[.agg #[.slice none 0 0, .int .i64 0, .string ⟨#[]⟩, .slice none 0 0, .slice none 0 0, .bool false], .bool false]) (by simp [results, Tryz.results39, go_sem, kR]) rfl ⟨?_, .inl ⟨HR.out, rfl⟩⟩
    have := HB1.out
    repeat (first | with_reducible exact this | with_reducible refine Below.setCell ?_ (by simp <;> omega) _)
  | some q =>
    have hlt := fnAt_lt HR.out
    obtain ⟨u, hu⟩ : ∃ u, x.funcs[q]? = some u := ⟨x.funcs[q], List.getElem?_eq_getElem hlt⟩
    have hz : idxI (some q) = (q : Int) := rfl
    rw [hz]
    have hk0 : (0 : Int) ≤ (q : Int) := by omega
    have hk1 : (q : Int) < (x.funcs.length : Int) := by omega
    have hk2 : ¬ (q : Int) < 0 := by omega
    obtain ⟨b, off, u0, u1, u2, u3, u4, u5, u6, e, -, hbl, hat, c0, c1, c2, c3, c4, c5, c6⟩ := rows_at7 Fu.len HV.out hu
    subst e
    replace c0 := (HB1.out.cell (p := ⟨b, off + q * 7, none⟩) hbl).trans c0
    replace c1 := (HB1.out.cell (p := ⟨b, off + q * 7 + 1, none⟩) hbl).trans c1
    replace c2 := (HB1.out.cell (p := ⟨b, off + q * 7 + 2, none⟩) hbl).trans c2
    replace c3 := (HB1.out.cell (p := ⟨b, off + q * 7 + 3, none⟩) hbl).trans c3
    replace c4 := (HB1.out.cell (p := ⟨b, off + q * 7 + 4, none⟩) hbl).trans c4
    replace c5 := (HB1.out.cell (p := ⟨b, off + q * 7 + 5, none⟩) hbl).trans c5
    replace c6 := (HB1.out.cell (p := ⟨b, off + q * 7 + 6, none⟩) hbl).trans c6
    obtain ⟨e0, e1, e2, e3, e4, e5, e6, e7, e8, e9, e10, e11, exx, -, hat'⟩ := Fu.open_ hat
    simp only [List.cons.injEq, and_true] at exx
    obtain ⟨rfl, rfl, rfl, rfl, rfl, rfl, rfl⟩ := exx
    have HU := Lib.hid (And.intro hu hat')
    clear hu hat hat'
    go_wp2
    refine bodyPost_ret (v := .tuple #[.agg #[.slice e0 e1 e2, .int .i64 e3, .string e4, .slice e5 e6 e7, .slice e8 e9 e10, .bool e11], .bool true]) (by simp [results, Tryz.results39, go_sem, kR]) rfl ⟨?_, .inr ⟨q, u, [.slice e0 e1 e2, .int .i64 e3, .string e4, .slice e5 e6 e7, .slice e8 e9 e10, .bool e11], HR.out, HU.out.1, HU.out.2.below ?_, rfl⟩⟩
    all_goals
      have := HB1.out
      repeat (first | with_reducible exact this | with_reducible refine Below.setCell ?_ (by simp <;> omega) _)

theorem in11 {w0 W : World} {h b o : Nat} {a0 a1 a2 a3 a4 c1 c2 c3 c4 c5 c6 : Value} (zh : h < w0.heap.size) (zb : b < w0.heap.size) (e : w0.cell? ⟨h, 0, none⟩ = some a0 ∧ w0.cell? ⟨h, 1, none⟩ = some a1 ∧ w0.cell? ⟨h, 2, none⟩ = some a2 ∧ w0.cell? ⟨h, 3, none⟩ = some a3 ∧ w0.cell? ⟨h, 4, none⟩ = some a4 ∧ w0.cell? ⟨b, o + 1, none⟩ = some c1 ∧ w0.cell? ⟨b, o + 2, none⟩ = some c2 ∧ w0.cell? ⟨b, o + 3, none⟩ = some c3 ∧ w0.cell? ⟨b, o + 4, none⟩ = some c4 ∧ w0.cell? ⟨b, o + 5, none⟩ = some c5 ∧ w0.cell? ⟨b, o + 6, none⟩ = some c6) (G : Below w0.heap.size w0 W) : W.cell? ⟨h, 0, none⟩ = some a0 ∧ W.cell? ⟨h, 1, none⟩ = some a1 ∧ W.cell? ⟨h, 2, none⟩ = some a2 ∧ W.cell? ⟨h, 3, none⟩ = some a3 ∧ W.cell? ⟨h, 4, none⟩ = some a4 ∧ W.cell? ⟨b, o + 1, none⟩ = some c1 ∧ W.cell? ⟨b, o + 2, none⟩ = some c2 ∧ W.cell? ⟨b, o + 3, none⟩ = some c3 ∧ W.cell? ⟨b, o + 4, none⟩ = some c4 ∧ W.cell? ⟨b, o + 5, none⟩ = some c5 ∧ W.cell? ⟨b, o + 6, none⟩ = some c6 := by
  obtain ⟨e0, e1, e2, e3, e4, f1, f2, f3, f4, f5, f6⟩ := e
  exact ⟨(G.cell (p := ⟨h, 0, none⟩) zh).trans e0, (G.cell (p := ⟨h, 1, none⟩) zh).trans e1, (G.cell (p := ⟨h, 2, none⟩) zh).trans e2, (G.cell (p := ⟨h, 3, none⟩) zh).trans e3, (G.cell (p := ⟨h, 4, none⟩) zh).trans e4, (G.cell (p := ⟨b, o + 1, none⟩) zb).trans f1, (G.cell (p := ⟨b, o + 2, none⟩) zb).trans f2, (G.cell (p := ⟨b, o + 3, none⟩) zb).trans f3, (G.cell (p := ⟨b, o + 4, none⟩) zb).trans f4, (G.cell (p := ⟨b, o + 5, none⟩) zb).trans f5, (G.cell (p := ⟨b, o + 6, none⟩) zb).trans f6⟩
theorem in11s {W : World} {p : Nat} {u : Value} {h b o : Nat} {a0 a1 a2 a3 a4 c1 c2 c3 c4 c5 c6 : Value} (hb : b ≠ h + 1) (e : W.cell? ⟨h, 0, none⟩ = some a0 ∧ W.cell? ⟨h, 1, none⟩ = some a1 ∧ W.cell? ⟨h, 2, none⟩ = some a2 ∧ W.cell? ⟨h, 3, none⟩ = some a3 ∧ W.cell? ⟨h, 4, none⟩ = some a4 ∧ W.cell? ⟨b, o + 1, none⟩ = some c1 ∧ W.cell? ⟨b, o + 2, none⟩ = some c2 ∧ W.cell? ⟨b, o + 3, none⟩ = some c3 ∧ W.cell? ⟨b, o + 4, none⟩ = some c4 ∧ W.cell? ⟨b, o + 5, none⟩ = some c5 ∧ W.cell? ⟨b, o + 6, none⟩ = some c6) : (W.setCell ⟨h + 1, p, none⟩ u).cell? ⟨h, 0, none⟩ = some a0 ∧ (W.setCell ⟨h + 1, p, none⟩ u).cell? ⟨h, 1, none⟩ = some a1 ∧ (W.setCell ⟨h + 1, p, none⟩ u).cell? ⟨h, 2, none⟩ = some a2 ∧ (W.setCell ⟨h + 1, p, none⟩ u).cell? ⟨h, 3, none⟩ = some a3 ∧ (W.setCell ⟨h + 1, p, none⟩ u).cell? ⟨h, 4, none⟩ = some a4 ∧ (W.setCell ⟨h + 1, p, none⟩ u).cell? ⟨b, o + 1, none⟩ = some c1 ∧ (W.setCell ⟨h + 1, p, none⟩ u).cell? ⟨b, o + 2, none⟩ = some c2 ∧ (W.setCell ⟨h + 1, p, none⟩ u).cell? ⟨b, o + 3, none⟩ = some c3 ∧ (W.setCell ⟨h + 1, p, none⟩ u).cell? ⟨b, o + 4, none⟩ = some c4 ∧ (W.setCell ⟨h + 1, p, none⟩ u).cell? ⟨b, o + 5, none⟩ = some c5 ∧ (W.setCell ⟨h + 1, p, none⟩ u).cell? ⟨b, o + 6, none⟩ = some c6 := by
  have k1 : ∀ j, (W.setCell ⟨h + 1, p, none⟩ u).cell? ⟨h, j, none⟩ = W.cell? ⟨h, j, none⟩ := fun j => by
    unfold World.cell?
    rw [Below.heap_setCell W ⟨h + 1, p, none⟩ u h (by simp)]
  have k2 : ∀ j, (W.setCell ⟨h + 1, p, none⟩ u).cell? ⟨b, j, none⟩ = W.cell? ⟨b, j, none⟩ := fun j => by
    unfold World.cell?
    rw [Below.heap_setCell W ⟨h + 1, p, none⟩ u b hb]
  simp only [k1, k2]
  exact e
/-- Both answers when there is no such function. -/
theorem noFn {x : Fa} {s : ByteArray} {R : Fn × Bool} (hr : fnIn x s = R) (h : faceOk x = false ∨ fnAt x.funcs s = none) : R = (zFn, false) := by
  rw [← hr]
  rcases h with h | h
  · exact fnIn_bad h
  · cases hf : faceOk x
    · exact fnIn_bad hf
    · exact fnIn_none hf h
set_option maxHeartbeats 4000000 in
set_option maxRecDepth 20000 in
theorem fnInRet_s (x : Fa) (s : ByteArray) (cs : List Value) (w : World) (R : Fn × Bool) (hr : fnIn x s = R) (hcs : D.Ats w anyB x.ds cs) (ht : D.totals x.ds ≤ 1048576) :
    Calls Tryz.prog 7 #[.agg cs.toArray, .string s] w (RetIn R w) := by
  have HX := Lib.hid hcs
  obtain ⟨p0, p1, p2, AO, nO, cO, AF, nF, cF, rfl⟩ := Fa.form hcs
  have hN : nF = x.funcs.length := by
    obtain ⟨A1, a1, A2, a2, e, -⟩ := Fa.open_ hcs
    simp only [List.cons.injEq, Value.slice.injEq, and_true] at e
    exact e.2.2.2.2.2.1
  clear hcs
  have HR := Lib.hid hr
  have HRN := Lib.hid (fun h => noFn hr h)
  obtain ⟨w0, hw0⟩ : ∃ w0, w0 = (w.alloc (.cells #[.string p0, .string p1, .string p2, .slice AO nO cO, .slice AF nF cF] 37)).alloc (.cells #[.slice none 0 0, .int .i64 0, .string ⟨#[]⟩, .slice none 0 0, .slice none 0 0, .bool false] 32) := ⟨_, rfl⟩
  have B0 : Below w.heap.size w w0 := by rw [hw0]; exact ((Below.refl _ _).alloc (Nat.le_refl _) _).alloc (by simp) _
  have bA : Box w0 w.heap.size 37 [.string p0, .string p1, .string p2, .slice AO nO cO, .slice AF nF cF] := by rw [hw0]; exact (Box.new w _ _).alloc _
  have bR : Box w0 (w.heap.size + 1) 32 [.slice none 0 0, .int .i64 0, .string ⟨#[]⟩, .slice none 0 0, .slice none 0 0, .bool false] := by rw [hw0]; have := Box.new (w.alloc (.cells #[.string p0, .string p1, .string p2, .slice AO nO cO, .slice AF nF cF] 37)) 32 [.slice none 0 0, .int .i64 0, .string ⟨#[]⟩, .slice none 0 0, .slice none 0 0, .bool false]; simpa using this
  have hs0 : w0.heap.size = w.heap.size + 2 := by rw [hw0]; simp
  have hfs : D.At w anyB (rows Fu.ds 7 x.funcs) (.slice AF nF cF) := by
    obtain ⟨A1, a1, A2, a2, e, -, -, -, -, h5⟩ := Fa.open_ HX.out
    simp only [List.cons.injEq, Value.slice.injEq, and_true] at e
    obtain ⟨-, -, -, -, rfl, rfl, rfl⟩ := e
    exact h5
  subst hN
  obtain ⟨-, hn, hc⟩ := rows_bound hfs
  unfold maxLen at hc
  have HV := Lib.hid hfs
  have HB := Lib.hid (And.intro B0 (And.intro bA (And.intro bR hs0)))
  have HIN := Lib.hid (fun W (h : Below w.heap.size w W) => l03In_s x s _ W (HX.out.below h))
  have HT := Lib.hid ht
  have kA := bA.cell
  obtain ⟨r, hr2⟩ : ∃ r, fnAt x.funcs s = r := ⟨_, rfl⟩
  rw [hr2] at HIN
  have HR2 := Lib.hid hr2
  clear bA bR B0 hfs hr hr2 hs0 ht
  go_enter Tryz.func7, Tryz.ntmps7
  go_upto_region 1 with fail
  rw [← hw0]
  clear hw0
  go_wp2_with fail
  refine (l03Face_s x _ _ (HX.out.below HB.out.1)).mono ?_
  rintro e w1 ⟨rfl, hb1⟩
  have B1 := Lib.hid (HB.out.1.trans (hb1.mono HB.out.1.size))
  have bA := HB.out.2.1.call hb1
  have bR := HB.out.2.2.1.call hb1
  have hsz1 : w.heap.size + 2 ≤ w1.heap.size := by have := hb1.size; have := HB.out.2.2.2; omega
  clear kA hb1
  have kA := bA.cell
  cases h1 : faceOk x
  · have E1 := Lib.hid (HRN.out (.inl h1))
    have kR := bR.cell
    have fR := bR.frozen
    have lR := bR.lt
    clear h1 bA bR
    go_wp2
    refine bodyPost_ret (v := .tuple #[.agg #[.slice none 0 0, .int .i64 0, .string ⟨#[]⟩, .slice none 0 0, .slice none 0 0, .bool false], .bool false]) (by simp [results, Tryz.results7, go_sem, kR]) rfl ⟨[.slice none 0 0, .int .i64 0, .string ⟨#[]⟩, .slice none 0 0, .slice none 0 0, .bool false], by rw [E1.out], ?_, ?_⟩
    · rw [E1.out]
      exact SepsIn.weaken (zFn_seps (lo := w.heap.size)) (Nat.le_refl _) (by simp [World.setCell]; omega)
    · have := B1.out
      repeat (first | with_reducible exact this | with_reducible refine Below.setCell ?_ (by simp <;> omega) _)
  · have HF := Lib.hid h1
    clear h1
    go_wp2_with fail
    refine (HIN.out _ B1.out).mono ?_
    rintro e w2 ⟨rfl, hb2⟩
    have B2 := Lib.hid (B1.out.trans (hb2.mono B1.out.size))
    replace bA := bA.call hb2
    replace bR := bR.call hb2
    have hsz2 : w.heap.size + 2 ≤ w2.heap.size := by have := hb2.size; omega
    clear kA hb2
    have kA := bA.cell
    cases r with
    | none =>
      have E1 := Lib.hid (HRN.out (.inr HR2.out))
      have hz : idxI none = -1 := rfl
      rw [hz]
      have kR := bR.cell
      have fR := bR.frozen
      have lR := bR.lt
      clear bA bR
      go_wp2
      refine bodyPost_ret (v := .tuple #[.agg #[.slice none 0 0, .int .i64 0, .string ⟨#[]⟩, .slice none 0 0, .slice none 0 0, .bool false], .bool false]) (by simp [results, Tryz.results7, go_sem, kR]) rfl ⟨[.slice none 0 0, .int .i64 0, .string ⟨#[]⟩, .slice none 0 0, .slice none 0 0, .bool false], by rw [E1.out], ?_, ?_⟩
      · rw [E1.out]
        exact SepsIn.weaken (zFn_seps (lo := w.heap.size)) (Nat.le_refl _) (by simp [World.setCell]; omega)
      · have := B2.out
        repeat (first | with_reducible exact this | with_reducible refine Below.setCell ?_ (by simp <;> omega) _)
    | some q =>
      have hlt := fnAt_lt HR2.out
      obtain ⟨u, hu⟩ : ∃ u, x.funcs[q]? = some u := ⟨x.funcs[q], List.getElem?_eq_getElem hlt⟩
      have E1 := Lib.hid (show R = (u.ty, true) by rw [← HR.out]; exact fnIn_some HF.out HR2.out hu)
      have hz : idxI (some q) = (q : Int) := rfl
      rw [hz]
      have hz2 : Hid (idxI (some q) = (q : Int)) := Lib.hid hz
      have hk0 : (0 : Int) ≤ (q : Int) := by omega
      have hk1 : (q : Int) < (x.funcs.length : Int) := by omega
      have hk2 : ¬ (q : Int) < 0 := by omega
      obtain ⟨b, off, u0, u1, u2, u3, u4, u5, u6, e, -, hbl, hat, c0, c1, c2, c3, c4, c5, c6⟩ := rows_at7 Fu.len HV.out hu
      subst e
      obtain ⟨e0, e1, e2, e3, e4, e5, e6, e7, e8, e9, e10, e11, exx, -, hat'⟩ := Fu.open_ hat
      simp only [List.cons.injEq, and_true] at exx
      obtain ⟨rfl, rfl, rfl, rfl, rfl, rfl, rfl⟩ := exx
      have HOWN := Lib.hid (fun W (h : Below w.heap.size w W) => l03OwnFunc_s u.ty [.slice e0 e1 e2, .int .i64 e3, .string e4, .slice e5 e6 e7, .slice e8 e9 e10, .bool e11] W (hat'.below h) (fu_total (by have := HT.out; omega) hu))
      have HIN2 := Lib.hid (fun W (h : Below w.heap.size w W) => (show Calls Tryz.prog 34 #[.agg #[.string p0, .string p1, .string p2, .slice AO nO cO, .slice (some ⟨b, off, none⟩) x.funcs.length cF], .string s] W fun e w' => e = .returned (.int .i64 (q : Int)) ∧ Below W.heap.size W w' from HIN.out W h))
      have HB2 := Lib.hid (And.intro bA bR)
      clear hu hat hat' hz
      go_upto_region 3 with fail
      replace c1 := (B2.out.cell (p := ⟨b, off + q * 7 + 1, none⟩) hbl).trans c1
      replace c2 := (B2.out.cell (p := ⟨b, off + q * 7 + 2, none⟩) hbl).trans c2
      replace c3 := (B2.out.cell (p := ⟨b, off + q * 7 + 3, none⟩) hbl).trans c3
      replace c4 := (B2.out.cell (p := ⟨b, off + q * 7 + 4, none⟩) hbl).trans c4
      replace c5 := (B2.out.cell (p := ⟨b, off + q * 7 + 5, none⟩) hbl).trans c5
      replace c6 := (B2.out.cell (p := ⟨b, off + q * 7 + 6, none⟩) hbl).trans c6
      have hne : b ≠ w.heap.size + 1 := by omega
      have zh : w.heap.size < w2.heap.size := by omega
      have zb : b < w2.heap.size := by omega
      have HE00 : w2.cell? ⟨w.heap.size, 0, none⟩ = some (.string p0) ∧ w2.cell? ⟨w.heap.size, 1, none⟩ = some (.string p1) ∧ w2.cell? ⟨w.heap.size, 2, none⟩ = some (.string p2) ∧ w2.cell? ⟨w.heap.size, 3, none⟩ = some (.slice AO nO cO) ∧ w2.cell? ⟨w.heap.size, 4, none⟩ = some (.slice (some ⟨b, off, none⟩) x.funcs.length cF) ∧ w2.cell? ⟨b, off + q * 7 + 1, none⟩ = some (.slice e0 e1 e2) ∧ w2.cell? ⟨b, off + q * 7 + 2, none⟩ = some (.int .i64 e3) ∧ w2.cell? ⟨b, off + q * 7 + 3, none⟩ = some (.string e4) ∧ w2.cell? ⟨b, off + q * 7 + 4, none⟩ = some (.slice e5 e6 e7) ∧ w2.cell? ⟨b, off + q * 7 + 5, none⟩ = some (.slice e8 e9 e10) ∧ w2.cell? ⟨b, off + q * 7 + 6, none⟩ = some (.bool e11) := And.intro (HB2.out.1.cell 0) (And.intro (HB2.out.1.cell 1) (And.intro (HB2.out.1.cell 2) (And.intro (HB2.out.1.cell 3) (And.intro (HB2.out.1.cell 4) (And.intro c1 (And.intro c2 (And.intro c3 (And.intro c4 (And.intro c5 c6)))))))))
      have HE0 := in11 zh zb HE00 (Below.drew (Below.refl _ w2))
      have B2d : Below w.heap.size w w2.drew := B2.out.drew
      have bRd : Box w2.drew (w.heap.size + 1) 32 [.slice none 0 0, .int .i64 0, .string ⟨#[]⟩, .slice none 0 0, .slice none 0 0, .bool false] := HB2.out.2
      clear bA bR
      refine wp_region_held_drew (S := (fun W => W.cell? ⟨w.heap.size, 0, none⟩ = some (.string p0) ∧ W.cell? ⟨w.heap.size, 1, none⟩ = some (.string p1) ∧ W.cell? ⟨w.heap.size, 2, none⟩ = some (.string p2) ∧ W.cell? ⟨w.heap.size, 3, none⟩ = some (.slice AO nO cO) ∧ W.cell? ⟨w.heap.size, 4, none⟩ = some (.slice (some ⟨b, off, none⟩) x.funcs.length cF) ∧ W.cell? ⟨b, off + q * 7 + 1, none⟩ = some (.slice e0 e1 e2) ∧ W.cell? ⟨b, off + q * 7 + 2, none⟩ = some (.int .i64 e3) ∧ W.cell? ⟨b, off + q * 7 + 3, none⟩ = some (.string e4) ∧ W.cell? ⟨b, off + q * 7 + 4, none⟩ = some (.slice e5 e6 e7) ∧ W.cell? ⟨b, off + q * 7 + 5, none⟩ = some (.slice e8 e9 e10) ∧ W.cell? ⟨b, off + q * 7 + 6, none⟩ = some (.bool e11))) (by kernel_rfl) ?_ (fun hHeld => ?_)
      · (try dsimp only); (first | with_reducible assumption | with_reducible exact HE0 | with_reducible exact HE3 | with_reducible exact HE4 | ((repeat (with_reducible refine in11s hne ?_)); with_reducible exact HE4))
      refine wpAnyH_take (i := 0) (v := ?_) (arr_get rfl) (by kernel_rfl) (by kernel_rfl) (by kernel_rfl) (fun _ _ _ h => h) (Or.inl ⟨by rfl, ?_⟩) (by assumption) ?_
      rotate_left 1
      · (intro W hSw; (try dsimp only at hSw); go_simp; try with_reducible rfl)
      (try simp only [Act.put, List.setIfInBounds_toArray, List.set_cons_zero, List.set_cons_succ])
      refine wpAnyH_take (i := 1) (v := ?_) (arr_get rfl) (by kernel_rfl) (by kernel_rfl) (by kernel_rfl) (fun _ _ _ h => h) (Or.inl ⟨by rfl, ?_⟩) (by assumption) ?_
      rotate_left 1
      · (intro W hSw; (try dsimp only at hSw); go_simp; try with_reducible rfl)
      (try simp only [Act.put, List.setIfInBounds_toArray, List.set_cons_zero, List.set_cons_succ])
      refine wpAnyH_take (i := 2) (v := ?_) (arr_get rfl) (by kernel_rfl) (by kernel_rfl) (by kernel_rfl) (fun _ _ _ h => h) (Or.inl ⟨by rfl, ?_⟩) (by assumption) ?_
      rotate_left 1
      · (intro W hSw; (try dsimp only at hSw); go_simp; try with_reducible rfl)
      (try simp only [Act.put, List.setIfInBounds_toArray, List.set_cons_zero, List.set_cons_succ])
      refine wpAnyH_take (i := 3) (v := ?_) (arr_get rfl) (by kernel_rfl) (by kernel_rfl) (by kernel_rfl) (fun _ _ _ h => h) (Or.inl ⟨by rfl, ?_⟩) (by assumption) ?_
      rotate_left 1
      · (intro W hSw; (try dsimp only at hSw); go_simp; try with_reducible rfl)
      (try simp only [Act.put, List.setIfInBounds_toArray, List.set_cons_zero, List.set_cons_succ])
      refine wpAnyH_ready (rs := [4]) (by kernel_rfl) (by simp) ?_
      refine AllReadyH.cons (arr_get rfl) (fun K hK => ?_) ?_
      · (go_simp; go_at_call 34; ((with_reducible refine (HIN2.out _ B2d).mono ?_); rintro e w3 ⟨rfl, hb3⟩; have bw3 : Below w2.heap.size w2 w3 := Below.trans (Below.drew (Below.refl _ _)) hb3; have B3 := B2d.trans (hb3.mono B2d.size); have HE3 := in11 zh zb HE00 bw3; have bR3 := Box.call (w := w2.drew) bRd hb3; have cR3 := bR3.cell; have gR3 := bR3.frozen; have mR3 := bR3.lt))
        (first | refine hK.out _ _ ?_ (fun hHeld => ?_) | (go_wp2_with fail; refine hK.out _ _ ?_ (fun hHeld => ?_)))
        · (try dsimp only); (first | with_reducible assumption | with_reducible exact HE0 | with_reducible exact HE3 | with_reducible exact HE4 | ((repeat (with_reducible refine in11s hne ?_)); with_reducible exact HE4))
        clear hK K
        (try simp only [Act.put, List.setIfInBounds_toArray, List.set_cons_zero, List.set_cons_succ])
        refine wpAnyH_take (i := 5) (v := ?_) (arr_get rfl) (by kernel_rfl) (by kernel_rfl) (by kernel_rfl) (fun _ _ _ h => h) (Or.inl ⟨by rfl, ?_⟩) (by assumption) ?_
        rotate_left 1
        · (intro W hSw; (try dsimp only at hSw); go_simp; try with_reducible rfl)
        (try simp only [Act.put, List.setIfInBounds_toArray, List.set_cons_zero, List.set_cons_succ])
        refine wpAnyH_take (i := 6) (v := ?_) (arr_get rfl) (by kernel_rfl) (by kernel_rfl) (by kernel_rfl) (fun _ _ _ h => h) (Or.inl ⟨by rfl, ?_⟩) (by assumption) ?_
        rotate_left 1
        · (intro W hSw; (try dsimp only at hSw); go_simp; try with_reducible rfl)
        (try simp only [Act.put, List.setIfInBounds_toArray, List.set_cons_zero, List.set_cons_succ])
        refine wpAnyH_take (i := 7) (v := ?_) (arr_get rfl) (by kernel_rfl) (by kernel_rfl) (by kernel_rfl) (fun _ _ _ h => h) (Or.inl ⟨by rfl, ?_⟩) (by assumption) ?_
        rotate_left 1
        · (intro W hSw; (try dsimp only at hSw); go_simp; try with_reducible rfl)
        (try simp only [Act.put, List.setIfInBounds_toArray, List.set_cons_zero, List.set_cons_succ])
        refine wpAnyH_ready (rs := [8]) (by kernel_rfl) (by simp) ?_
        refine AllReadyH.cons (arr_get rfl) (fun K hK => ?_) ?_
        · (go_simp; go_at_call 35; ((with_reducible refine (HOWN.out _ B3).mono ?_); rintro e w4 ⟨cs4, rfl, hs4, hb4⟩; obtain ⟨y0, y1, y2, y3, y4, y5, y6, y7, y8, y9, y10, y11, rfl⟩ := Fn.form hs4.ats; have bw4 : Below w2.heap.size w2 w4 := bw3.trans (hb4.mono bw3.size); have B4 := B3.trans (hb4.mono B3.size); have HE4 := in11 zh zb HE00 bw4; have bR4 := bR3.call hb4; have cR := bR4.cell; have gR := bR4.frozen; have mR := bR4.lt; have hsz3 := hb3.size))
          (first | refine hK.out _ _ ?_ (fun hHeld => ?_) | (go_wp2_with fail; refine hK.out _ _ ?_ (fun hHeld => ?_)))
          · (try dsimp only); (first | with_reducible assumption | with_reducible exact HE0 | with_reducible exact HE3 | with_reducible exact HE4 | ((repeat (with_reducible refine in11s hne ?_)); with_reducible exact HE4))
          clear hK K
          (try simp only [Act.put, List.setIfInBounds_toArray, List.set_cons_zero, List.set_cons_succ])
          refine wpAnyH_ready (rs := [9]) (by kernel_rfl) (by simp) ?_
          refine AllReadyH.cons (arr_get rfl) (fun K hK => ?_) ?_
          · go_simp
            (first | refine hK.out _ _ ?_ (fun hHeld => ?_) | (go_wp2_with fail; refine hK.out _ _ ?_ (fun hHeld => ?_)))
            · (try dsimp only); (first | with_reducible assumption | with_reducible exact HE0 | with_reducible exact HE3 | with_reducible exact HE4 | ((repeat (with_reducible refine in11s hne ?_)); with_reducible exact HE4))
            clear hK K
            (try simp only [Act.put, List.setIfInBounds_toArray, List.set_cons_zero, List.set_cons_succ])
            refine wpAnyH_ready (rs := [10]) (by kernel_rfl) (by simp) ?_
            refine AllReadyH.cons (arr_get rfl) (fun K hK => ?_) ?_
            · go_simp
              (first | refine hK.out _ _ ?_ (fun hHeld => ?_) | (go_wp2_with fail; refine hK.out _ _ ?_ (fun hHeld => ?_)))
              · (try dsimp only); (first | with_reducible assumption | with_reducible exact HE0 | with_reducible exact HE3 | with_reducible exact HE4 | ((repeat (with_reducible refine in11s hne ?_)); with_reducible exact HE4))
              clear hK K
              (try simp only [Act.put, List.setIfInBounds_toArray, List.set_cons_zero, List.set_cons_succ])
              refine wpAnyH_done (by kernel_rfl) ?_ _
              have HE := Lib.hid (And.intro hs4 (And.intro B4 hsz3))
              clear hs4 hb4 hb3 B4 bw3 bw4 B3 HE0 HE00 HE3 HE4 bR3 bR4 bRd cR3 gR3 mR3 hsz3 c0 c1 c2 c3 c4 c5 c6 kA
              go_wp2
              refine bodyPost_ret (v := .tuple #[.agg #[.slice y0 y1 y2, .int .i64 y3, .string y4, .slice y5 y6 y7, .slice y8 y9 y10, .bool y11], .bool true]) (by simp [results, Tryz.results7, go_sem, cR]) rfl ⟨[.slice y0 y1 y2, .int .i64 y3, .string y4, .slice y5 y6 y7, .slice y8 y9 y10, .bool y11], by rw [E1.out], ?_, ?_⟩
              · rw [E1.out]
                have hz3 : w.heap.size + 1 < w3.heap.size := by have := HE.out.2.2; have h : w2.drew.heap.size = w2.heap.size := rfl; omega
                refine SepsIn.weaken (lo := w3.heap.size) (hi := w4.heap.size) ?_ (by omega) (by simp [World.setCell])
                repeat (with_reducible refine SepsIn.set ?_ (Or.inl hz3) _)
                exact HE.out.1
              · have := HE.out.2.1
                repeat (first | with_reducible exact this | with_reducible refine Below.setCell ?_ (by simp <;> omega) _)
            exact AllReadyH.nil
          exact AllReadyH.nil
        exact AllReadyH.nil
      exact AllReadyH.nil

set_option maxHeartbeats 4000000 in
set_option maxRecDepth 20000 in
theorem fnInRet_i (x : Fa) (s : ByteArray) (cs : List Value) (w : World) (hv : VerW w) (R : Fn × Bool) (hr : fnIn x s = R) (hcs : D.Ats w anyB x.ds cs) (ht : D.totals x.ds ≤ 1048576) :
    Calls Tryz.prog 9 #[.agg cs.toArray, .string s] w (RetIn R w) := by
  have HX := Lib.hid hcs
  obtain ⟨p0, p1, p2, AO, nO, cO, AF, nF, cF, rfl⟩ := Fa.form hcs
  have hN : nF = x.funcs.length := by
    obtain ⟨A1, a1, A2, a2, e, -⟩ := Fa.open_ hcs
    simp only [List.cons.injEq, Value.slice.injEq, and_true] at e
    exact e.2.2.2.2.2.1
  clear hcs
  have HR := Lib.hid hr
  have HRN := Lib.hid (fun h => noFn hr h)
  have HVW := Lib.hid hv
  obtain ⟨w0, hw0⟩ : ∃ w0, w0 = (w.alloc (.cells #[.string p0, .string p1, .string p2, .slice AO nO cO, .slice AF nF cF] 37)).alloc (.cells #[.slice none 0 0, .int .i64 0, .string ⟨#[]⟩, .slice none 0 0, .slice none 0 0, .bool false] 32) := ⟨_, rfl⟩
  have B0 : Below w.heap.size w w0 := by rw [hw0]; exact ((Below.refl _ _).alloc (Nat.le_refl _) _).alloc (by simp) _
  have bA : Box w0 w.heap.size 37 [.string p0, .string p1, .string p2, .slice AO nO cO, .slice AF nF cF] := by rw [hw0]; exact (Box.new w _ _).alloc _
  have bR : Box w0 (w.heap.size + 1) 32 [.slice none 0 0, .int .i64 0, .string ⟨#[]⟩, .slice none 0 0, .slice none 0 0, .bool false] := by rw [hw0]; have := Box.new (w.alloc (.cells #[.string p0, .string p1, .string p2, .slice AO nO cO, .slice AF nF cF] 37)) 32 [.slice none 0 0, .int .i64 0, .string ⟨#[]⟩, .slice none 0 0, .slice none 0 0, .bool false]; simpa using this
  have hs0 : w0.heap.size = w.heap.size + 2 := by rw [hw0]; simp
  have HB := Lib.hid (And.intro B0 (And.intro bA (And.intro bR hs0)))
  have HFI := Lib.hid (fun W (h : Below w.heap.size w W) => funcIn_i x s _ W (HX.out.below h))
  have HT := Lib.hid ht
  have kA := bA.cell
  clear bA bR B0 hr hs0 ht hv hN
  go_enter Tryz.func9, Tryz.ntmps9
  go_upto_region 1 with fail
  rw [← hw0]
  clear hw0
  go_wp2_with fail
  refine (faceOk_i x _ _ (HVW.out.below HB.out.1) (HX.out.below HB.out.1) HT.out).mono ?_
  rintro e w1 ⟨rfl, hb1⟩
  have B1 := Lib.hid (HB.out.1.trans (hb1.mono HB.out.1.size))
  have bA := HB.out.2.1.call hb1
  have bR := HB.out.2.2.1.call hb1
  have hsz1 : w.heap.size + 2 ≤ w1.heap.size := by have := hb1.size; have := HB.out.2.2.2; omega
  clear kA hb1
  have kA := bA.cell
  cases h1 : faceOk x
  · have E1 := Lib.hid (HRN.out (.inl h1))
    have kR := bR.cell
    have fR := bR.frozen
    have lR := bR.lt
    clear h1 bA bR
    go_wp2
    refine bodyPost_ret (v := .tuple #[.agg #[.slice none 0 0, .int .i64 0, .string ⟨#[]⟩, .slice none 0 0, .slice none 0 0, .bool false], .bool false]) (by simp [results, Tryz.results9, go_sem, kR]) rfl ⟨[.slice none 0 0, .int .i64 0, .string ⟨#[]⟩, .slice none 0 0, .slice none 0 0, .bool false], by rw [E1.out], ?_, ?_⟩
    · rw [E1.out]
      exact SepsIn.weaken (zFn_seps (lo := w.heap.size)) (Nat.le_refl _) (by simp [World.setCell]; omega)
    · have := B1.out
      repeat (first | with_reducible exact this | with_reducible refine Below.setCell ?_ (by simp <;> omega) _)
  · have HF := Lib.hid h1
    clear h1
    go_wp2_with fail
    refine (HFI.out _ B1.out).mono ?_
    rintro e w2 ⟨hb2, hres⟩
    have B2 := Lib.hid (B1.out.trans (hb2.mono B1.out.size))
    have bA2 := Lib.hid (bA.call hb2)
    have bR2 := Lib.hid (bR.call hb2)
    have hsz2 : w.heap.size + 2 ≤ w2.heap.size := by have := hb2.size; omega
    clear kA hb2 bA bR
    rcases hres with ⟨hn, rfl⟩ | ⟨q, u, cs2, hq, hu, hat, rfl⟩
    · have E1 := Lib.hid (HRN.out (.inr hn))
      have bR3 := bR2.out.alloc (.cells #[.slice none 0 0, .int .i64 0, .string ⟨#[]⟩, .slice none 0 0, .slice none 0 0, .bool false] 32)
      have kR := bR3.cell
      have fR := bR3.frozen
      have lR := bR3.lt
      clear hn bR3
      go_wp2
      refine bodyPost_ret (v := .tuple #[.agg #[.slice none 0 0, .int .i64 0, .string ⟨#[]⟩, .slice none 0 0, .slice none 0 0, .bool false], .bool false]) (by simp [results, Tryz.results9, go_sem, kR]) rfl ⟨[.slice none 0 0, .int .i64 0, .string ⟨#[]⟩, .slice none 0 0, .slice none 0 0, .bool false], by rw [E1.out], ?_, ?_⟩
      · rw [E1.out]
        exact SepsIn.weaken (zFn_seps (lo := w.heap.size)) (Nat.le_refl _) (by simp [World.setCell]; omega)
      · have := B2.out.alloc (o := .cells #[.slice none 0 0, .int .i64 0, .string ⟨#[]⟩, .slice none 0 0, .slice none 0 0, .bool false] 32) B2.out.size
        repeat (first | with_reducible exact this | with_reducible refine Below.setCell ?_ (by simp <;> omega) _)
    · have E1 := Lib.hid (show R = (u.ty, true) by rw [← HR.out]; exact fnIn_some HF.out hq hu)
      obtain ⟨y0, y1, y2, y3, y4, y5, y6, y7, y8, y9, y10, y11, rfl⟩ := Fn.form hat
      have hat2 := hat.below ((Below.refl _ _).alloc (Nat.le_refl _) (.cells #[.slice y0 y1 y2, .int .i64 y3, .string y4, .slice y5 y6 y7, .slice y8 y9 y10, .bool y11] 32))
      have HOWN := Lib.hid (copyFunc_i u.ty _ _ hat2 (fu_total (by have := HT.out; omega) hu))
      have bX := Box.new w2 32 [.slice y0 y1 y2, .int .i64 y3, .string y4, .slice y5 y6 y7, .slice y8 y9 y10, .bool y11]
      have bR3 := bR2.out.alloc (.cells #[.slice y0 y1 y2, .int .i64 y3, .string y4, .slice y5 y6 y7, .slice y8 y9 y10, .bool y11] 32)
      have HB2 := Lib.hid (And.intro bR3 (B2.out.alloc (o := .cells #[.slice y0 y1 y2, .int .i64 y3, .string y4, .slice y5 y6 y7, .slice y8 y9 y10, .bool y11] 32) B2.out.size))
      have kX := bX.cell
      have fX := bX.frozen
      clear hat hat2 hu hq bX bR3
      go_wp2_with fail
      refine HOWN.out.mono ?_
      rintro e w4 ⟨cs4, rfl, hs4, hb4⟩
      obtain ⟨x0, x1, x2, x3, x4, x5, x6, x7, x8, x9, x10, x11, rfl⟩ := Fn.form hs4.ats
      have bR4 := HB2.out.1.call hb4
      have B4 := Lib.hid (HB2.out.2.trans (hb4.mono HB2.out.2.size))
      have HS := Lib.hid hs4
      have kR := bR4.cell
      have fR := bR4.frozen
      have lR := bR4.lt
      clear kX fX hs4 hb4 bR4
      go_wp2
      refine bodyPost_ret (v := .tuple #[.agg #[.slice x0 x1 x2, .int .i64 x3, .string x4, .slice x5 x6 x7, .slice x8 x9 x10, .bool x11], .bool true]) (by simp [results, Tryz.results9, go_sem, kR]) rfl ⟨[.slice x0 x1 x2, .int .i64 x3, .string x4, .slice x5 x6 x7, .slice x8 x9 x10, .bool x11], by rw [E1.out], ?_, ?_⟩
      · rw [E1.out]
        have hz3 : w.heap.size + 1 < (w2.alloc (.cells #[.slice y0 y1 y2, .int .i64 y3, .string y4, .slice y5 y6 y7, .slice y8 y9 y10, .bool y11] 32)).heap.size := by simp; omega
        refine SepsIn.weaken (lo := (w2.alloc (.cells #[.slice y0 y1 y2, .int .i64 y3, .string y4, .slice y5 y6 y7, .slice y8 y9 y10, .bool y11] 32)).heap.size) (hi := w4.heap.size) ?_ (by omega) (by simp [World.setCell])
        repeat (with_reducible refine SepsIn.set ?_ (Or.inl hz3) _)
        exact HS.out
      · have := B4.out
        repeat (first | with_reducible exact this | with_reducible refine Below.setCell ?_ (by simp <;> omega) _)

end Go.Proofs.YtpfkhojhkjaafaaGreatDoor
