/- Worlds: interfaces that are valid and in order. No program in sight. Worlds: the program's walk. Worlds: the program's walk of the interfaces. Worlds: the program's walk. Worlds: the reference's walk. -/
import Derived.Test.YtklhkdihokgpeaaGreatDoorFaS
import Derived.Test.YtklhkdihokgpeaaGreatDoorFaI
import Derived.BigQuiet
import Derived.Deep.RegionHeld3
import Derived.Deep.DeepCutAuto
namespace Go.Proofs.YtklhkdihokgpeaaGreatDoor
open Go.RowKit

/-- One interface stands before another: by package, then by name. -/
def faLt (a b : Fa) : Bool := Op.bytesLess a.pkg.toList b.pkg.toList || ((a.pkg.toList == b.pkg.toList) && Op.bytesLess a.name.toList b.name.toList)
/-- Up to k each stands before its follower. -/
def ordTo (l : List Fa) (k : Nat) : Prop := ∀ j x y, j + 1 < k → l[j]? = some x → l[j + 1]? = some y → faLt x y = true
def ordB : List Fa → Bool
  | [] => true
  | [_] => true
  | x :: y :: r => faLt x y && ordB (y :: r)
theorem ordB_iff (l : List Fa) : ordB l = true ↔ ordTo l l.length := by
  induction l with
  | nil => exact ⟨fun _ j x y h => absurd h (by simp), fun _ => rfl⟩
  | cons a r ih =>
    cases r with
    | nil => exact ⟨fun _ j x y h => absurd h (by simp), fun _ => rfl⟩
    | cons b r =>
      show (faLt a b && ordB (b :: r)) = true ↔ _
      rw [Bool.and_eq_true, ih]
      constructor
      · rintro ⟨h1, h2⟩ j x y hj hx hy
        cases j with
        | zero =>
          obtain rfl : a = x := Option.some.inj hx
          obtain rfl : b = y := Option.some.inj hy
          exact h1
        | succ j => exact h2 j x y (by simpa using hj) hx hy
      · intro h
        exact ⟨h 0 a b (by simp) rfl rfl, fun j x y hj hx hy => h (j + 1) x y (by simpa using hj) hx hy⟩
theorem ordTo.next {l : List Fa} {k : Nat} {x y : Fa} (h : ordTo l (k + 1)) (hx : l[k]? = some x) (hy : l[k + 1]? = some y) (hl : faLt x y = true) : ordTo l (k + 2) := by
  intro j a b hj ha hb
  by_cases e : j = k
  · subst e
    rw [hx] at ha
    rw [hy] at hb
    obtain rfl := Option.some.inj ha
    obtain rfl := Option.some.inj hb
    exact hl
  · exact h j a b (by omega) ha hb
theorem ord_bad {l : List Fa} {k : Nat} {x y : Fa} (hx : l[k]? = some x) (hy : l[k + 1]? = some y) (hl : faLt x y = false) : ordB l = false := by
  cases h : ordB l
  · rfl
  · have := (ordB_iff l).1 h k x y (List.getElem?_eq_some_iff.1 hy).1 hx hy
    rw [hl] at this
    cases this
theorem ord_end {l : List Fa} (h : ordTo l l.length) : ordB l = true := (ordB_iff l).2 h
def facesOk (l : List Fa) : Bool := decide (l.length ≤ 6) && (l.all faceOk && ordB l)
def worldOk (x : Wo) : Bool := nameOk x.pkg && (nameOk x.name && (numIs x.ver && (facesOk x.imps && facesOk x.exps)))
theorem less_irrefl (l : List UInt8) : Op.bytesLess l l = false := by
  rw [bytesLess_eq]
  simp
theorem faLt_less {a b : Fa} (h : Op.bytesLess a.pkg.toList b.pkg.toList = true) : faLt a b = true := by unfold faLt; rw [h]; rfl
theorem faLt_eq {a b : Fa} (h : Op.bytesLess a.pkg.toList b.pkg.toList = false) (e : (a.pkg.toList == b.pkg.toList) = true) : faLt a b = Op.bytesLess a.name.toList b.name.toList := by unfold faLt; rw [h, e]; rfl
theorem faLt_gtr {a b : Fa} (h : Op.bytesLess a.pkg.toList b.pkg.toList = false) (e : (a.pkg.toList == b.pkg.toList) = false) : faLt a b = false := by unfold faLt; rw [h, e]; rfl
theorem less_ne {a b : ByteArray} (h : Op.bytesLess a.toList b.toList = true) : (a.toList == b.toList) = false := by
  cases e : (a.toList == b.toList)
  · rfl
  · rw [show a.toList = b.toList from by simpa using e, less_irrefl] at h
    cases h
end Go.Proofs.YtklhkdihokgpeaaGreatDoor
namespace Go.Proofs.YtklhkdihokgpeaaGreatDoor
open Go.RowKit

def cmpS (x y : ByteArray) : Int := if Op.bytesLess x.toList y.toList = true then -1 else if (x.toList == y.toList) = true then 0 else 1
theorem cmp_cases (a b : Fa) : (decide (0 ≤ (if cmpS a.pkg b.pkg = 0 then cmpS a.name b.name else cmpS a.pkg b.pkg)) : Bool) = !(faLt a b) := by
  unfold cmpS
  cases h1 : Op.bytesLess a.pkg.toList b.pkg.toList
  · cases h2 : (a.pkg.toList == b.pkg.toList)
    · rw [faLt_gtr h1 h2]; rfl
    · rw [faLt_eq h1 h2]
      cases h3 : Op.bytesLess a.name.toList b.name.toList
      · cases h4 : (a.name.toList == b.name.toList) <;> rfl
      · rfl
  · rw [faLt_less h1]; rfl
theorem isNaNS (x : ByteArray) (w : World) : Calls Tryz.prog 138 #[.string x] w fun e w' => e = .returned (.bool false) ∧ w = w' := by
  have h1 : (x.toList == x.toList) = true := by simp
  go_enter Tryz.func138, Tryz.ntmps138
  go_wp2
  exact bodyPost_ret (v := .bool false) (by simp [results, Tryz.results138, go_sem]) rfl ⟨rfl, rfl⟩
set_option maxHeartbeats 1000000 in
theorem cmp_s (x y : ByteArray) (w : World) : Calls Tryz.prog 109 #[.string x, .string y] w fun e w' => e = .returned (.int .i64 (cmpS x y)) ∧ w = w' := by
  cases h1 : Op.bytesLess x.toList y.toList
  · cases h2 : (x.toList == y.toList)
    · have HV := Lib.hid (show cmpS x y = 1 by unfold cmpS; rw [h1, h2]; rfl)
      go_enter Tryz.func109, Tryz.ntmps109
      go_wp2_with (go_at_call 138; refine (isNaNS _ _).mono ?_; rintro e w1 ⟨rfl, rfl⟩)
      exact bodyPost_ret (v := .int .i64 1) (by simp [results, Tryz.results109, go_sem]) rfl ⟨by rw [HV.out], rfl⟩
    · have HV := Lib.hid (show cmpS x y = 0 by unfold cmpS; rw [h1, h2]; rfl)
      go_enter Tryz.func109, Tryz.ntmps109
      go_wp2_with (go_at_call 138; refine (isNaNS _ _).mono ?_; rintro e w1 ⟨rfl, rfl⟩)
      exact bodyPost_ret (v := .int .i64 0) (by simp [results, Tryz.results109, go_sem]) rfl ⟨by rw [HV.out], rfl⟩
  · have HV := Lib.hid (show cmpS x y = -1 by unfold cmpS; rw [h1]; rfl)
    go_enter Tryz.func109, Tryz.ntmps109
    go_wp2_with (go_at_call 138; refine (isNaNS _ _).mono ?_; rintro e w1 ⟨rfl, rfl⟩)
    exact bodyPost_ret (v := .int .i64 (-1)) (by simp [results, Tryz.results109, go_sem]) rfl ⟨by rw [HV.out], rfl⟩
end Go.Proofs.YtklhkdihokgpeaaGreatDoor
namespace Go.Proofs.YtklhkdihokgpeaaGreatDoor
open Go.RowKit

set_option maxHeartbeats 2000000 in
set_option maxRecDepth 20000 in
theorem or2 (a b : Int) (g : Nat) (w : World) (c0 : w.cell? ⟨g, 0, none⟩ = some (.int .i64 a)) (c1 : w.cell? ⟨g, 1, none⟩ = some (.int .i64 b)) :
    Calls Tryz.prog 108 #[.slice (some ⟨g, 0, none⟩) 2 2] w fun e w' => e = .returned (.int .i64 (if a = 0 then b else a)) ∧ w = w' := by
  have HC := Lib.hid (And.intro c0 c1)
  obtain ⟨R, hR⟩ : ∃ R, (if a = 0 then b else a) = R := ⟨_, rfl⟩
  rw [hR]
  have HR := Lib.hid hR
  clear c0 c1 hR
  go_enter Tryz.func108, Tryz.ntmps108
  go_wp2
  go_loopw [5, 8] (fun _ i wr => ∃ k : Nat, k ≤ 2 ∧ i = .int .i64 k ∧ (0 < k → a = 0) ∧ (1 < k → b = 0) ∧ w = wr) (fun _ i _ => 2 - (intOf i).toNat)
  case atStart => exact ⟨0, by omega, rfl, fun h => absurd h (by omega), fun h => absurd h (by omega), rfl⟩
  case round =>
    obtain ⟨k, hk, rfl, h0, h1, rfl⟩ := hrel
    have hk3 : k = 0 ∨ k = 1 ∨ k = 2 := by omega
    rcases hk3 with rfl | rfl | rfl
    · have c0 := HC.out.1
      clear h0 h1
      by_cases ha : a = 0
      · have HA := Lib.hid ha
        rw [ha] at c0
        clear ha
        go_wp2
        go_roundw
        case rel => exact ⟨1, by omega, by go_num, fun _ => HA.out, fun h => absurd h (by omega), by first | rfl | trivial⟩
        case measure => simp [intOf]
      · have HV := Lib.hid (show R = a by rw [← HR.out]; exact if_neg ha)
        go_wp2
        go_ret
        exact ⟨ret_eq (by rw [HV.out]; try rfl), rfl⟩
    · have c1 := HC.out.2
      have HV := Lib.hid (show R = b by rw [← HR.out]; exact if_pos (h0 (by omega)))
      have HA := Lib.hid (h0 (by omega))
      clear h0 h1
      by_cases ha : b = 0
      · have HA2 := Lib.hid ha
        rw [ha] at c1
        clear ha
        go_wp2
        go_roundw
        case rel => exact ⟨2, by omega, by go_num, fun _ => HA.out, fun _ => HA2.out, by first | rfl | trivial⟩
        case measure => simp [intOf]
      · go_wp2
        go_ret
        exact ⟨ret_eq (by rw [HV.out]; try rfl), rfl⟩
    · have HV := Lib.hid (show R = 0 by rw [← HR.out, if_pos (h0 (by omega)), h1 (by omega)])
      clear h0 h1
      go_wp2
      go_ret
      exact ⟨ret_eq (by rw [HV.out]; try rfl), rfl⟩
def cmpF (a b : Fa) : Int := if cmpS a.pkg b.pkg = 0 then cmpS a.name b.name else cmpS a.pkg b.pkg
theorem cmpF_lt (a b : Fa) : (decide (0 ≤ cmpF a b) : Bool) = !(faLt a b) := cmp_cases a b
set_option maxHeartbeats 2000000 in
set_option maxRecDepth 20000 in
theorem compareFaces_i (x y : Fa) (cs cs' : List Value) (w : World) (hcs : D.Ats w anyB x.ds cs) (hcs' : D.Ats w anyB y.ds cs') :
    Calls Tryz.prog 76 #[.agg cs.toArray, .agg cs'.toArray] w fun e w' => e = .returned (.int .i64 (cmpF x y)) ∧ Below w.heap.size w w' := by
  obtain ⟨AO, cO, AF, cF, rfl, -, -, -, -, -⟩ := Fa.open_ hcs
  obtain ⟨AO', cO', AF', cF', rfl, -, -, -, -, -⟩ := Fa.open_ hcs'
  obtain ⟨w0, hw0, b1, b2, B0⟩ : ∃ w0, w0 = (w.alloc (.cells #[.string x.pkg, .string x.name, .string x.ver, .slice AO x.owns.length cO, .slice AF x.funcs.length cF] 30)).alloc (.cells #[.string y.pkg, .string y.name, .string y.ver, .slice AO' y.owns.length cO', .slice AF' y.funcs.length cF'] 30) ∧
      Box w0 w.heap.size 30 [.string x.pkg, .string x.name, .string x.ver, .slice AO x.owns.length cO, .slice AF x.funcs.length cF] ∧ Box w0 (w.heap.size + 1) 30 [.string y.pkg, .string y.name, .string y.ver, .slice AO' y.owns.length cO', .slice AF' y.funcs.length cF'] ∧ Below w.heap.size w w0 :=
    ⟨_, rfl, (Box.new w _ _).alloc _, by simpa using Box.new (w.alloc (.cells #[.string x.pkg, .string x.name, .string x.ver, .slice AO x.owns.length cO, .slice AF x.funcs.length cF] 30)) 30 [.string y.pkg, .string y.name, .string y.ver, .slice AO' y.owns.length cO', .slice AF' y.funcs.length cF'], ((Below.refl _ _).alloc (Nat.le_refl _) _).alloc (by simp) _⟩
  have k0 := b1.cell
  have k1 := b2.cell
  clear hcs hcs'
  change Calls Tryz.prog 76 #[.agg #[.string x.pkg, .string x.name, .string x.ver, .slice AO x.owns.length cO, .slice AF x.funcs.length cF], .agg #[.string y.pkg, .string y.name, .string y.ver, .slice AO' y.owns.length cO', .slice AF' y.funcs.length cF']] w _
  have HF := Lib.hid (show (if cmpS x.pkg y.pkg = 0 then cmpS x.name y.name else cmpS x.pkg y.pkg) = cmpF x y from rfl)
  obtain ⟨R, hR⟩ : ∃ R, cmpF x y = R := ⟨_, rfl⟩
  rw [hR] at HF ⊢
  clear hR
  go_enter Tryz.func76, Tryz.ntmps76
  go_upto_region 1 with fail
  rw [← hw0]
  clear hw0
  have e0 : w0.cell? ⟨w.heap.size, 0, none⟩ = some (.string x.pkg) := k0 0
  have e1 : w0.cell? ⟨w.heap.size, 1, none⟩ = some (.string x.name) := k0 1
  have d0 : w0.cell? ⟨w.heap.size + 1, 0, none⟩ = some (.string y.pkg) := k1 0
  have d1 : w0.cell? ⟨w.heap.size + 1, 1, none⟩ = some (.string y.name) := k1 1
  clear k0 k1 b1 b2
  obtain ⟨c1, hc1⟩ : ∃ c, cmpS x.pkg y.pkg = c := ⟨_, rfl⟩
  obtain ⟨c2, hc2⟩ : ∃ c, cmpS x.name y.name = c := ⟨_, rfl⟩
  rw [hc1, hc2] at HF
  have H1 := Lib.hid (fun w => cmp_s x.pkg y.pkg w)
  have H2 := Lib.hid (fun w => cmp_s x.name y.name w)
  rw [hc1] at H1
  rw [hc2] at H2
  clear hc1 hc2
  have HO := Lib.hid (show ∀ (g : Nat) (w : World), w.cell? ⟨g, 0, none⟩ = some (.int .i64 c1) → w.cell? ⟨g, 1, none⟩ = some (.int .i64 c2) → Calls Tryz.prog 108 #[.slice (some ⟨g, 0, none⟩) 2 2] w fun e w' => e = .returned (.int .i64 R) ∧ w = w' from fun g w a b => by have h := or2 c1 c2 g w a b; rw [HF.out] at h; exact h)
  have BD := B0.drew
  go_region_held3 (fun w' => w'.cell? ⟨w.heap.size, 0, none⟩ = some (.string x.pkg) ∧ w'.cell? ⟨w.heap.size, 1, none⟩ = some (.string x.name) ∧ w'.cell? ⟨w.heap.size + 1, 0, none⟩ = some (.string y.pkg) ∧ w'.cell? ⟨w.heap.size + 1, 1, none⟩ = some (.string y.name))
    (go_keep)
    (first
      | (go_at_call 109; ((with_reducible refine (H1.out _).mono ?_); rintro e wa ⟨rfl, rfl⟩))
      | (go_at_call 109; ((with_reducible refine (H2.out _).mono ?_); rintro e wa ⟨rfl, rfl⟩))
      | (go_at_call 108; ((with_reducible refine (HO.out _ _ (by simp) (by simp)).mono ?_); rintro e wb ⟨rfl, rfl⟩)))
  all_goals
    go_wp2
    go_ret
    exact ⟨rfl, by first | exact (B0.alloc B0.size _).drew | exact BD.alloc BD.size _⟩
end Go.Proofs.YtklhkdihokgpeaaGreatDoor
namespace Go.Proofs.YtklhkdihokgpeaaGreatDoor
open Go.RowKit

set_option maxHeartbeats 4000000 in
set_option maxRecDepth 20000 in
theorem facesOk_i (l : List Fa) (A : Option Addr) (cap : Nat) (w : World) (hw : VerW w) (hv : D.At w anyB (rows Fa.ds 5 l) (.slice A l.length cap)) (ht : ∀ x ∈ l, D.totals x.ds ≤ 1048576) :
    Calls Tryz.prog 44 #[.slice A l.length cap] w fun e w' => e = .returned (.bool (facesOk l)) ∧ Below w.heap.size w w' := by
  obtain ⟨-, hn, hc⟩ := rows_bound hv
  unfold maxLen at hc
  have HV := Lib.hid hv
  have HW := Lib.hid hw
  have HT := Lib.hid ht
  clear hv hw ht
  go_enter Tryz.func44, Tryz.ntmps44
  go_wp2
  go_loopw [3, 4, 7] (fun _ _ i wr => ∃ q : Nat, q ≤ l.length ∧ i = .int .i64 q ∧ AllTo faceOk l q ∧ ordTo l q ∧ Below w.heap.size w wr) (fun _ _ i _ => l.length - (intOf i).toNat)
  case atStart => exact ⟨0, Nat.zero_le _, rfl, fun j x h => absurd h (by omega), fun j x y h => absurd h (by omega), Below.refl _ _⟩
  case round =>
    obtain ⟨q, hq, rfl, hall, hord, hb⟩ := hrel
    have HA := Lib.hid (And.intro hall hord)
    clear hall hord
    by_cases hlt : q < l.length
    · obtain ⟨x, hx⟩ : ∃ x, l[q]? = some x := ⟨l[q], List.getElem?_eq_getElem hlt⟩
      have hk0 : (0 : Int) ≤ (q : Int) := by omega
      have hk1 : (q : Int) < (l.length : Int) := by omega
      obtain ⟨b, off, u0, u1, u2, u3, u4, e, -, hbl, hat, d0, d1, d2, d3, d4⟩ := rows_at5 Fa.len (HV.out.below hb) hx
      subst e
      obtain ⟨AO, cO, AF, cF, exx, -, -, -, -, -⟩ := Fa.open_ hat
      simp only [List.cons.injEq, and_true] at exx
      obtain ⟨rfl, rfl, rfl, rfl, rfl⟩ := exx
      obtain ⟨w2, hw2⟩ : ∃ w2, w2 = wr.alloc (.cells #[.string x.pkg, .string x.name, .string x.ver, .slice AO x.owns.length cO, .slice AF x.funcs.length cF] 30) := ⟨_, rfl⟩
      have bA : Box w2 wr.heap.size 30 [.string x.pkg, .string x.name, .string x.ver, .slice AO x.owns.length cO, .slice AF x.funcs.length cF] := by rw [hw2]; exact Box.new wr _ _
      have bw : Below wr.heap.size wr w2 := by rw [hw2]; exact (Below.refl _ _).alloc (Nat.le_refl _) _
      have HB2 := Lib.hid (hb.trans (bw.mono hb.size))
      have HX := Lib.hid (hat.below bw)
      have HXT := Lib.hid (HT.out x (List.mem_of_getElem? hx))
      have HS := Lib.hid hx
      have HFc := Lib.hid (fun W (G : Below w2.heap.size w2 W) => faceOk_i x _ W ((HW.out.below HB2.out).below G) (HX.out.below G) HXT.out)
      clear hat hx bw
      go_upto_region 4 with fail
      rw [← hw2]
      clear hw2 d0 d1 d2 d3 d4
      have kA := bA.cell
      have g0 := cell_regrown (show w2.cell? ⟨wr.heap.size, 0, none⟩ = some (.string x.pkg) from kA 0)
      have g1 := cell_regrown (show w2.cell? ⟨wr.heap.size, 1, none⟩ = some (.string x.name) from kA 1)
      have g2 := cell_regrown (show w2.cell? ⟨wr.heap.size, 2, none⟩ = some (.string x.ver) from kA 2)
      have g3 := cell_regrown (show w2.cell? ⟨wr.heap.size, 3, none⟩ = some (.slice AO x.owns.length cO) from kA 3)
      have g4 := cell_regrown (show w2.cell? ⟨wr.heap.size, 4, none⟩ = some (.slice AF x.funcs.length cF) from kA 4)
      clear kA
      cases o6 : faceOk x
      · have HB := Lib.hid (show facesOk l = false by unfold facesOk; rw [all_bad HS.out o6]; simp)
        rw [o6] at HFc
        clear o6
        go_wp2_with fail
        refine wp_region_quiet_below (by kernel_rfl) (by kernel_rfl) ?_
        repeat (first | go_big_quiet_step ((first | with_reducible exact Calls.regrown_of (HFc.out _ (below_regrown _ _ _)))) | quiet_step ((first | with_reducible exact Calls.regrown_of (HFc.out _ (below_regrown _ _ _)))))
        refine wpQuiet_nil ?_
        intro w3 hw3
        have hb3 := HB2.out.trans ((below_of_regrown hw3).mono HB2.out.size)
        clear hw3 g0 g1 g2 g3 g4
        go_wp2
        exact bodyPost_ret (v := .bool false) (by simp [results, Tryz.results44, go_sem]) rfl ⟨by rw [HB.out], hb3⟩
      · have HAN := Lib.hid (HA.out.1.next HS.out o6)
        rw [o6] at HFc
        clear o6
        cases q with
        | zero =>
          have hk2 : ¬ (0 : Int) < ((0 : Nat) : Int) := by omega
          rw [show ((0 : Nat) : Int) = 0 from rfl]
          clear hk0 hk1 hk2
          go_wp2_with fail
          refine wp_region_quiet_below (by kernel_rfl) (by kernel_rfl) ?_
          repeat (first | go_big_quiet_step ((first | with_reducible exact Calls.regrown_of (HFc.out _ (below_regrown _ _ _)))) | quiet_step ((first | with_reducible exact Calls.regrown_of (HFc.out _ (below_regrown _ _ _)))))
          refine wpQuiet_nil ?_
          intro w3 hw3
          have hb3 := HB2.out.trans ((below_of_regrown hw3).mono HB2.out.size)
          clear hw3 g0 g1 g2 g3 g4
          go_wp2
          go_roundw
          case rel => exact ⟨1, by omega, by go_num, HAN.out, fun j x y h => absurd h (by omega), hb3⟩
          case measure => simp [intOf]; omega
        | succ q =>
          obtain ⟨y, hy⟩ : ∃ y, l[q]? = some y := ⟨l[q]'(by omega), List.getElem?_eq_getElem (by omega)⟩
          have i0 : ((q + 1 : Nat) : Int) = (q : Int) + 1 := by omega
          have i1 : (q : Int) + 1 < (l.length : Int) := by omega
          have i2 : (0 : Int) ≤ (q : Int) := by omega
          have i3 : (q : Int) < (l.length : Int) := by omega
          have i4 : (0 : Int) ≤ (q : Int) + 1 := by omega
          have i5 : ((q : Int) + 1).toNat = q + 1 := by omega
          have i6 : (q : Int) + 1 - 1 = (q : Int) := by omega
          have i7 : (0 : Int) < (q : Int) + 1 := by omega
          rw [i0]
          obtain ⟨b', off', v0, v1, v2, v3, v4, e, -, hbl', hat', c0, c1, c2, c3, c4⟩ := rows_at5 Fa.len (HV.out.below HB2.out) hy
          simp only [Option.some.injEq, Addr.mk.injEq] at e
          obtain ⟨rfl, rfl, -⟩ := e
          obtain ⟨AO', cO', AF', cF', exx, -, -, -, -, -⟩ := Fa.open_ hat'
          simp only [List.cons.injEq, and_true] at exx
          obtain ⟨rfl, rfl, rfl, rfl, rfl⟩ := exx
          have HPR := Lib.hid hy
          have HY := Lib.hid hat'
          have HCp := Lib.hid (fun W (G : Below w2.heap.size w2 W) => compareFaces_i y x _ _ W (HY.out.below G) (HX.out.below G))
          have e0 := cell_regrown c0
          have e1 := cell_regrown c1
          have e2 := cell_regrown c2
          have e3 := cell_regrown c3
          have e4 := cell_regrown c4
          have hcl := cmpF_lt y x
          obtain ⟨R, hR⟩ : ∃ R, cmpF y x = R := ⟨_, rfl⟩
          rw [hR] at HCp hcl
          clear hat' hy hk0 hk1 i0 c0 c1 c2 c3 c4 hR
          cases h3 : faLt y x
          · have HB := Lib.hid (show facesOk l = false by unfold facesOk; rw [ord_bad HPR.out HS.out h3]; simp)
            rw [h3] at hcl
            have hR0 : (0 : Int) ≤ R := by simpa using hcl
            clear h3 hcl
            go_wp2_with fail
            refine wp_region_quiet_below (by kernel_rfl) (by kernel_rfl) ?_
            repeat (first | go_big_quiet_step ((first | with_reducible exact Calls.regrown_of (HFc.out _ (below_regrown _ _ _)) | with_reducible exact Calls.regrown_of (HCp.out _ (below_regrown _ _ _)))) | quiet_step ((first | with_reducible exact Calls.regrown_of (HFc.out _ (below_regrown _ _ _)) | with_reducible exact Calls.regrown_of (HCp.out _ (below_regrown _ _ _)))))
            refine wpQuiet_nil ?_
            intro w3 hw3
            have hb3 := HB2.out.trans ((below_of_regrown hw3).mono HB2.out.size)
            clear hw3 g0 g1 g2 g3 g4 e0 e1 e2 e3 e4
            go_wp2
            exact bodyPost_ret (v := .bool false) (by simp [results, Tryz.results44, go_sem]) rfl ⟨by rw [HB.out], hb3⟩
          · have HO := Lib.hid (HA.out.2.next HPR.out HS.out h3)
            rw [h3] at hcl
            have hR0 : ¬ (0 : Int) ≤ R := by simpa using hcl
            clear h3 hcl
            go_wp2_with fail
            refine wp_region_quiet_below (by kernel_rfl) (by kernel_rfl) ?_
            repeat (first | go_big_quiet_step ((first | with_reducible exact Calls.regrown_of (HFc.out _ (below_regrown _ _ _)) | with_reducible exact Calls.regrown_of (HCp.out _ (below_regrown _ _ _)))) | quiet_step ((first | with_reducible exact Calls.regrown_of (HFc.out _ (below_regrown _ _ _)) | with_reducible exact Calls.regrown_of (HCp.out _ (below_regrown _ _ _)))))
            refine wpQuiet_nil ?_
            intro w3 hw3
            have hb3 := HB2.out.trans ((below_of_regrown hw3).mono HB2.out.size)
            clear hw3 g0 g1 g2 g3 g4 e0 e1 e2 e3 e4
            go_wp2
            go_roundw
            case rel => exact ⟨q + 2, by omega, by go_num, HAN.out, HO.out, hb3⟩
            case measure => simp [intOf]; omega
    · obtain rfl : q = l.length := by omega
      have HFO := Lib.hid (show facesOk l = decide (l.length ≤ 6) by unfold facesOk; rw [HA.out.1.end_, ord_end HA.out.2]; simp)
      by_cases o4 : l.length ≤ 6
      · have HB := Lib.hid (show facesOk l = true by rw [HFO.out, decide_eq_true o4])
        have o4' : (l.length : Int) ≤ 6 := by omega
        go_wp2
        exact bodyPost_ret (v := .bool true) (by simp [results, Tryz.results44, go_sem]) rfl ⟨by rw [HB.out], hb⟩
      · have HB := Lib.hid (show facesOk l = false by rw [HFO.out, decide_eq_false o4])
        have o4' : ¬ (l.length : Int) ≤ 6 := by omega
        go_wp2
        exact bodyPost_ret (v := .bool false) (by simp [results, Tryz.results44, go_sem]) rfl ⟨by rw [HB.out], hb⟩
theorem Wo.bounds {x : Wo} (h : D.totals x.ds ≤ 1048576) : x.ver.size ≤ 1048576 ∧ (∀ f ∈ x.imps, D.totals f.ds ≤ 1048576) ∧ (∀ f ∈ x.exps, D.totals f.ds ≤ 1048576) := by
  have e : D.totals x.ds = x.pkg.size + (x.name.size + (x.ver.size + ((rows Fa.ds 5 x.imps).total + ((rows Fa.ds 5 x.exps).total + 0)))) := rfl
  rw [rows_total, rows_total] at e
  refine ⟨by omega, fun f hf => ?_, fun f hf => ?_⟩
  · have h1 := totals_mem (f := Fa.ds) hf
    omega
  · have h1 := totals_mem (f := Fa.ds) hf
    omega
set_option maxHeartbeats 4000000 in
set_option maxRecDepth 20000 in
theorem worldOk_i (x : Wo) (cs : List Value) (w : World) (hv : VerW w) (hcs : D.Ats w anyB x.ds cs) (ht : D.totals x.ds ≤ 1048576) :
    Calls Tryz.prog 15 #[.agg cs.toArray] w fun e w' => e = .returned (.bool (worldOk x)) ∧ Below w.heap.size w w' := by
  have HTB := Lib.hid (Wo.bounds ht)
  have HVW := Lib.hid hv
  clear hv ht
  obtain ⟨AI, cI, AE, cE, rfl, z1, z2, z3, hI, hE⟩ := Wo.open_ hcs
  have HR := Lib.hid (And.intro hI hE)
  obtain ⟨w0, hw0⟩ : ∃ w0, w0 = w.alloc (.cells #[.string x.pkg, .string x.name, .string x.ver, .slice AI x.imps.length cI, .slice AE x.exps.length cE] 41) := ⟨_, rfl⟩
  have bA0 : Box w0 w.heap.size 41 [.string x.pkg, .string x.name, .string x.ver, .slice AI x.imps.length cI, .slice AE x.exps.length cE] := by rw [hw0]; exact Box.new w _ _
  have B0 : Below w.heap.size w w0 := by rw [hw0]; exact (Below.refl _ _).alloc (Nat.le_refl _) _
  have HZ := Lib.hid (And.intro z1 (And.intro z2 z3))
  clear hcs hI hE z1 z2 z3
  change Calls Tryz.prog 15 #[.agg #[.string x.pkg, .string x.name, .string x.ver, .slice AI x.imps.length cI, .slice AE x.exps.length cE]] w _
  have kA := bA0.cell
  go_enter Tryz.func15, Tryz.ntmps15
  go_upto_region 1 with fail
  rw [← hw0]
  clear hw0
  go_wp2_with fail
  refine (nameOk_i x.pkg HZ.out.1 _).mono ?_
  rintro e w1 ⟨rfl, hb1⟩
  have B1 := B0.trans (hb1.mono B0.size)
  have bA1 := bA0.call hb1
  clear kA hb1
  have kA := bA1.cell
  cases o1 : nameOk x.pkg
  · have HV := Lib.hid (show worldOk x = false by unfold worldOk; rw [o1]; rfl)
    clear o1
    go_wp2
    exact bodyPost_ret (v := .bool false) (by simp [results, Tryz.results15, go_sem]) rfl ⟨by rw [HV.out], B1⟩
  have O1 := Lib.hid o1
  clear o1
  go_wp2_with fail
  refine (nameOk_i x.name HZ.out.2.1 _).mono ?_
  rintro e w2 ⟨rfl, hb2⟩
  have B2 := B1.trans (hb2.mono B1.size)
  have bA2 := bA1.call hb2
  clear kA hb2
  have kA := bA2.cell
  cases o2 : nameOk x.name
  · have HV := Lib.hid (show worldOk x = false by unfold worldOk; rw [O1.out, o2]; rfl)
    clear o2
    go_wp2
    exact bodyPost_ret (v := .bool false) (by simp [results, Tryz.results15, go_sem]) rfl ⟨by rw [HV.out], B2⟩
  have O2 := Lib.hid o2
  clear o2
  go_wp2_with fail
  refine (versionOk_i x.ver HTB.out.1 _ (HVW.out.below B2)).mono ?_
  rintro e w3 ⟨rfl, hb3⟩
  have B3 := B2.trans (hb3.mono B2.size)
  have bA3 := bA2.call hb3
  clear kA hb3
  have kA := bA3.cell
  cases o3 : numIs x.ver
  · have HV := Lib.hid (show worldOk x = false by unfold worldOk; rw [O1.out, O2.out, o3]; rfl)
    clear o3
    go_wp2
    exact bodyPost_ret (v := .bool false) (by simp [results, Tryz.results15, go_sem]) rfl ⟨by rw [HV.out], B3⟩
  have O3 := Lib.hid o3
  clear o3
  go_wp2_with fail
  refine (facesOk_i x.imps AI cI _ (HVW.out.below B3) (HR.out.1.below B3) HTB.out.2.1).mono ?_
  rintro e w4 ⟨rfl, hb4⟩
  have B4 := B3.trans (hb4.mono B3.size)
  have bA4 := bA3.call hb4
  clear kA hb4
  have kA := bA4.cell
  cases o4 : facesOk x.imps
  · have HV := Lib.hid (show worldOk x = false by unfold worldOk; rw [O1.out, O2.out, O3.out, o4]; rfl)
    clear o4
    go_wp2
    exact bodyPost_ret (v := .bool false) (by simp [results, Tryz.results15, go_sem]) rfl ⟨by rw [HV.out], B4⟩
  have O4 := Lib.hid o4
  clear o4
  go_wp2_with fail
  refine (facesOk_i x.exps AE cE _ (HVW.out.below B4) (HR.out.2.below B4) HTB.out.2.2).mono ?_
  rintro e w5 ⟨rfl, hb5⟩
  have B5 := B4.trans (hb5.mono B4.size)
  have bA5 := bA4.call hb5
  clear kA hb5
  have kA := bA5.cell
  have HV := Lib.hid (show worldOk x = facesOk x.exps by unfold worldOk; rw [O1.out, O2.out, O3.out, O4.out]; rfl)
  obtain ⟨R, hR⟩ : ∃ R, facesOk x.exps = R := ⟨_, rfl⟩
  rw [hR] at HV ⊢
  clear hR
  go_wp2
  exact bodyPost_ret (v := .bool R) (by simp [results, Tryz.results15, go_sem]) rfl ⟨by rw [HV.out], B5⟩
end Go.Proofs.YtklhkdihokgpeaaGreatDoor
namespace Go.Proofs.YtklhkdihokgpeaaGreatDoor
open Go.RowKit

set_option maxHeartbeats 4000000 in
set_option maxRecDepth 20000 in
theorem l07Faces_s (l : List Fa) (A : Option Addr) (cap : Nat) (w : World) (hv : D.At w anyB (rows Fa.ds 5 l) (.slice A l.length cap)) :
    Calls Tryz.prog 75 #[.slice A l.length cap] w fun e w' => e = .returned (.bool (facesOk l)) ∧ Below w.heap.size w w' := by
  obtain ⟨-, hn, hc⟩ := rows_bound hv
  unfold maxLen at hc
  have HV := Lib.hid hv
  clear hv
  by_cases o4 : l.length ≤ 6
  case neg =>
    have HB := Lib.hid (show facesOk l = false by unfold facesOk; rw [decide_eq_false o4]; rfl)
    have o4' : (6 : Int) < (l.length : Int) := by omega
    go_enter Tryz.func75, Tryz.ntmps75
    go_wp2
    exact bodyPost_ret (v := .bool false) (by simp [results, Tryz.results75, go_sem]) rfl ⟨by rw [HB.out], Below.refl _ _⟩
  have HFO := Lib.hid (show facesOk l = (l.all faceOk && ordB l) by unfold facesOk; rw [decide_eq_true o4]; rfl)
  have o4' : ¬ (6 : Int) < (l.length : Int) := by omega
  go_enter Tryz.func75, Tryz.ntmps75
  go_wp2
  go_loopw [3, 4] (fun i _ wr => ∃ q : Nat, q ≤ l.length ∧ i = .int .i64 q ∧ AllTo faceOk l q ∧ ordTo l q ∧ Below w.heap.size w wr) (fun i _ _ => l.length - (intOf i).toNat)
  case atStart => exact ⟨0, Nat.zero_le _, rfl, fun j x h => absurd h (by omega), fun j x y h => absurd h (by omega), Below.refl _ _⟩
  case round =>
    obtain ⟨q, hq, rfl, hall, hord, hb⟩ := hrel
    have HA := Lib.hid (And.intro hall hord)
    clear hall hord
    by_cases hlt : q < l.length
    · obtain ⟨x, hx⟩ : ∃ x, l[q]? = some x := ⟨l[q], List.getElem?_eq_getElem hlt⟩
      have hk0 : (0 : Int) ≤ (q : Int) := by omega
      have hk1 : (q : Int) < (l.length : Int) := by omega
      obtain ⟨b, off, u0, u1, u2, u3, u4, e, -, hbl, hat, d0, d1, d2, d3, d4⟩ := rows_at5 Fa.len (HV.out.below hb) hx
      subst e
      obtain ⟨AO, cO, AF, cF, exx, -, -, -, -, -⟩ := Fa.open_ hat
      simp only [List.cons.injEq, and_true] at exx
      obtain ⟨rfl, rfl, rfl, rfl, rfl⟩ := exx
      have HX := Lib.hid hat
      have HS := Lib.hid hx
      clear hat hx
      go_wp2_with fail
      refine (faceOk_s x _ _ HX.out).mono ?_
      rintro e w1 ⟨rfl, hb1⟩
      have B1 := hb.trans (hb1.mono hb.size)
      clear d0 d1 d2 d3 d4 hb1 HX
      cases o6 : faceOk x
      · have HB := Lib.hid (show facesOk l = false by rw [HFO.out, all_bad HS.out o6]; rfl)
        clear o6
        go_wp2
        exact bodyPost_ret (v := .bool false) (by simp [results, Tryz.results75, go_sem]) rfl ⟨by rw [HB.out], B1⟩
      · have HAN := Lib.hid (HA.out.1.next HS.out o6)
        clear o6
        cases q with
        | zero =>
          go_wp2
          go_roundw
          case rel => exact ⟨1, by omega, by go_num, HAN.out, fun j x y h => absurd h (by omega), B1⟩
          case measure => simp [intOf]; omega
        | succ q =>
          obtain ⟨y, hy⟩ : ∃ y, l[q]? = some y := ⟨l[q]'(by omega), List.getElem?_eq_getElem (by omega)⟩
          have i0 : ((q + 1 : Nat) : Int) = (q : Int) + 1 := by omega
          have i1 : (q : Int) + 1 < (l.length : Int) := by omega
          have i2 : (0 : Int) ≤ (q : Int) := by omega
          have i3 : (q : Int) < (l.length : Int) := by omega
          have i4 : (0 : Int) ≤ (q : Int) + 1 := by omega
          have i5 : ((q : Int) + 1).toNat = q + 1 := by omega
          have i6 : (q : Int) + 1 - 1 = (q : Int) := by omega
          have i7 : (0 : Int) < (q : Int) + 1 := by omega
          rw [i0]
          obtain ⟨b', off', v0, v1, v2, v3, v4, e, -, hbl', hat', c0, c1, c2, c3, c4⟩ := rows_at5 Fa.len (HV.out.below B1) hy
          simp only [Option.some.injEq, Addr.mk.injEq] at e
          obtain ⟨rfl, rfl, -⟩ := e
          obtain ⟨AO', cO', AF', cF', exx, -, -, -, -, -⟩ := Fa.open_ hat'
          simp only [List.cons.injEq, and_true] at exx
          obtain ⟨rfl, rfl, rfl, rfl, rfl⟩ := exx
          have HPR := Lib.hid hy
          clear hat' hy hk0 hk1 i0
          obtain ⟨w2, hw2⟩ : ∃ w2, w2 = w1.alloc (.cells #[.string y.pkg, .string y.name, .string y.ver, .slice AO' y.owns.length cO', .slice AF' y.funcs.length cF'] 30) := ⟨_, rfl⟩
          have bA : Box w2 w1.heap.size 30 [.string y.pkg, .string y.name, .string y.ver, .slice AO' y.owns.length cO', .slice AF' y.funcs.length cF'] := by rw [hw2]; exact Box.new w1 _ _
          have B2 : Below w.heap.size w w2 := by rw [hw2]; exact B1.alloc B1.size _
          go_upto_region 10 with fail
          rw [← hw2]
          clear hw2 c0 c1 c2 c3 c4
          obtain ⟨b', off', v0, v1, v2, v3, v4, e, -, -, hat', c0, c1, -⟩ := rows_at5 Fa.len (HV.out.below B2) HS.out
          simp only [Option.some.injEq, Addr.mk.injEq] at e
          obtain ⟨rfl, rfl, -⟩ := e
          obtain ⟨AO2, cO2, AF2, cF2, exx, -⟩ := Fa.open_ hat'
          simp only [List.cons.injEq, and_true] at exx
          obtain ⟨rfl, rfl, -⟩ := exx
          have kA := bA.cell
          have d0 := cell_regrown c0
          have d1 := cell_regrown c1
          have g0 := cell_regrown (show w2.cell? ⟨w1.heap.size, 0, none⟩ = some (.string y.pkg) from kA 0)
          have g1 := cell_regrown (show w2.cell? ⟨w1.heap.size, 1, none⟩ = some (.string y.name) from kA 1)
          have hcases : (Op.bytesLess y.pkg.toList x.pkg.toList = true ∧ (y.pkg.toList == x.pkg.toList) = false ∧ faLt y x = true) ∨ (Op.bytesLess y.pkg.toList x.pkg.toList = false ∧ (y.pkg.toList == x.pkg.toList) = false ∧ faLt y x = false) ∨ (Op.bytesLess y.pkg.toList x.pkg.toList = false ∧ (y.pkg.toList == x.pkg.toList) = true ∧ Op.bytesLess y.name.toList x.name.toList = faLt y x) := by
            cases h1 : Op.bytesLess y.pkg.toList x.pkg.toList
            · cases h2 : (y.pkg.toList == x.pkg.toList)
              · exact .inr (.inl ⟨rfl, rfl, faLt_gtr h1 h2⟩)
              · exact .inr (.inr ⟨rfl, rfl, (faLt_eq h1 h2).symm⟩)
            · exact .inl ⟨rfl, less_ne h1, faLt_less h1⟩
          clear kA c0 c1 hat'
          rcases hcases with ⟨h1, h2, h3⟩ | ⟨h1, h2, h3⟩ | ⟨h1, h2, h3⟩
          · have HO := Lib.hid (HA.out.2.next HPR.out HS.out h3)
            clear h3
            go_wp2_with fail
            refine wp_region_quiet_below (by kernel_rfl) (by kernel_rfl) ?_
            repeat (first | go_big_quiet_step (fail) | quiet_step (fail))
            refine wpQuiet_nil ?_
            intro w3 hw3
            have hb3 := B2.trans ((below_of_regrown hw3).mono B2.size)
            clear hw3 d0 d1 g0 g1
            go_wp2
            go_roundw
            case rel => exact ⟨q + 2, by omega, by go_num, HAN.out, HO.out, hb3⟩
            case measure => simp [intOf]; omega
          · have HB := Lib.hid (show facesOk l = false by rw [HFO.out, ord_bad HPR.out HS.out h3]; simp)
            clear h3
            go_wp2_with fail
            refine wp_region_quiet_below (by kernel_rfl) (by kernel_rfl) ?_
            repeat (first | go_big_quiet_step (fail) | quiet_step (fail))
            refine wpQuiet_nil ?_
            intro w3 hw3
            have hb3 := B2.trans ((below_of_regrown hw3).mono B2.size)
            clear hw3 d0 d1 g0 g1
            go_wp2
            exact bodyPost_ret (v := .bool false) (by simp [results, Tryz.results75, go_sem]) rfl ⟨by rw [HB.out], hb3⟩
          · cases h4 : faLt y x
            · have HB := Lib.hid (show facesOk l = false by rw [HFO.out, ord_bad HPR.out HS.out h4]; simp)
              rw [h4] at h3
              clear h4
              go_wp2_with fail
              refine wp_region_quiet_below (by kernel_rfl) (by kernel_rfl) ?_
              repeat (first | go_big_quiet_step (fail) | quiet_step (fail))
              refine wpQuiet_nil ?_
              intro w3 hw3
              have hb3 := B2.trans ((below_of_regrown hw3).mono B2.size)
              clear hw3 d0 d1 g0 g1
              go_wp2
              exact bodyPost_ret (v := .bool false) (by simp [results, Tryz.results75, go_sem]) rfl ⟨by rw [HB.out], hb3⟩
            · have HO := Lib.hid (HA.out.2.next HPR.out HS.out h4)
              rw [h4] at h3
              clear h4
              go_wp2_with fail
              refine wp_region_quiet_below (by kernel_rfl) (by kernel_rfl) ?_
              repeat (first | go_big_quiet_step (fail) | quiet_step (fail))
              refine wpQuiet_nil ?_
              intro w3 hw3
              have hb3 := B2.trans ((below_of_regrown hw3).mono B2.size)
              clear hw3 d0 d1 g0 g1
              go_wp2
              go_roundw
              case rel => exact ⟨q + 2, by omega, by go_num, HAN.out, HO.out, hb3⟩
              case measure => simp [intOf]; omega
    · obtain rfl : q = l.length := by omega
      have HB := Lib.hid (show facesOk l = true by rw [HFO.out, HA.out.1.end_, ord_end HA.out.2]; rfl)
      go_wp2
      exact bodyPost_ret (v := .bool true) (by simp [results, Tryz.results75, go_sem]) rfl ⟨by rw [HB.out], hb⟩
set_option maxHeartbeats 1000000 in
theorem nameOk_s (s : ByteArray) (hs : s.size ≤ maxLen) (w : World) : Calls Tryz.prog 74 #[.string s] w fun e w' => e = .returned (.bool (nameOk s)) ∧ Below w.heap.size w w' := by
  have H := Lib.hid (l03Name_s s hs w)
  obtain ⟨R, hR⟩ : ∃ R, nameOk s = R := ⟨_, rfl⟩
  rw [hR] at H ⊢
  clear hR
  go_enter Tryz.func74, Tryz.ntmps74
  go_wp2_with fail
  refine H.out.mono ?_
  rintro e w1 ⟨rfl, rfl⟩
  go_wp2
  exact bodyPost_ret (v := .bool R) (by simp [results, Tryz.results74, go_sem]) rfl ⟨rfl, Below.refl _ _⟩
set_option maxHeartbeats 4000000 in
set_option maxRecDepth 20000 in
theorem l07WorldOk_s (x : Wo) (cs : List Value) (w : World) (hcs : D.Ats w anyB x.ds cs) :
    Calls Tryz.prog 42 #[.agg cs.toArray] w fun e w' => e = .returned (.bool (worldOk x)) ∧ Below w.heap.size w w' := by
  obtain ⟨AI, cI, AE, cE, rfl, z1, z2, z3, hI, hE⟩ := Wo.open_ hcs
  have HR := Lib.hid (And.intro hI hE)
  obtain ⟨w0, hw0⟩ : ∃ w0, w0 = w.alloc (.cells #[.string x.pkg, .string x.name, .string x.ver, .slice AI x.imps.length cI, .slice AE x.exps.length cE] 41) := ⟨_, rfl⟩
  have bA0 : Box w0 w.heap.size 41 [.string x.pkg, .string x.name, .string x.ver, .slice AI x.imps.length cI, .slice AE x.exps.length cE] := by rw [hw0]; exact Box.new w _ _
  have B0 : Below w.heap.size w w0 := by rw [hw0]; exact (Below.refl _ _).alloc (Nat.le_refl _) _
  have HZ := Lib.hid (And.intro z1 (And.intro z2 z3))
  clear hcs hI hE z1 z2 z3
  change Calls Tryz.prog 42 #[.agg #[.string x.pkg, .string x.name, .string x.ver, .slice AI x.imps.length cI, .slice AE x.exps.length cE]] w _
  have kA := bA0.cell
  go_enter Tryz.func42, Tryz.ntmps42
  go_upto_region 1 with fail
  rw [← hw0]
  clear hw0
  go_wp2_with fail
  refine (nameOk_s x.pkg HZ.out.1 _).mono ?_
  rintro e w1 ⟨rfl, hb1⟩
  have B1 := B0.trans (hb1.mono B0.size)
  have bA1 := bA0.call hb1
  clear kA hb1
  have kA := bA1.cell
  cases o1 : nameOk x.pkg
  · have HV := Lib.hid (show worldOk x = false by unfold worldOk; rw [o1]; rfl)
    clear o1
    go_wp2
    exact bodyPost_ret (v := .bool false) (by simp [results, Tryz.results42, go_sem]) rfl ⟨by rw [HV.out], B1⟩
  have O1 := Lib.hid o1
  clear o1
  go_wp2_with fail
  refine (nameOk_s x.name HZ.out.2.1 _).mono ?_
  rintro e w2 ⟨rfl, hb2⟩
  have B2 := B1.trans (hb2.mono B1.size)
  have bA2 := bA1.call hb2
  clear kA hb2
  have kA := bA2.cell
  cases o2 : nameOk x.name
  · have HV := Lib.hid (show worldOk x = false by unfold worldOk; rw [O1.out, o2]; rfl)
    clear o2
    go_wp2
    exact bodyPost_ret (v := .bool false) (by simp [results, Tryz.results42, go_sem]) rfl ⟨by rw [HV.out], B2⟩
  have O2 := Lib.hid o2
  clear o2
  go_wp2_with fail
  refine (versionOk_s x.ver (by have := HZ.out.2.2; unfold maxLen at this; omega) _).mono ?_
  rintro e w3 ⟨rfl, hb3⟩
  have B3 := B2.trans (hb3.mono B2.size)
  have bA3 := bA2.call hb3
  clear kA hb3
  have kA := bA3.cell
  cases o3 : numIs x.ver
  · have HV := Lib.hid (show worldOk x = false by unfold worldOk; rw [O1.out, O2.out, o3]; rfl)
    clear o3
    go_wp2
    exact bodyPost_ret (v := .bool false) (by simp [results, Tryz.results42, go_sem]) rfl ⟨by rw [HV.out], B3⟩
  have O3 := Lib.hid o3
  clear o3
  go_wp2_with fail
  refine (l07Faces_s x.imps AI cI _ (HR.out.1.below B3)).mono ?_
  rintro e w4 ⟨rfl, hb4⟩
  have B4 := B3.trans (hb4.mono B3.size)
  have bA4 := bA3.call hb4
  clear kA hb4
  have kA := bA4.cell
  cases o4 : facesOk x.imps
  · have HV := Lib.hid (show worldOk x = false by unfold worldOk; rw [O1.out, O2.out, O3.out, o4]; rfl)
    clear o4
    go_wp2
    exact bodyPost_ret (v := .bool false) (by simp [results, Tryz.results42, go_sem]) rfl ⟨by rw [HV.out], B4⟩
  have O4 := Lib.hid o4
  clear o4
  go_wp2_with fail
  refine (l07Faces_s x.exps AE cE _ (HR.out.2.below B4)).mono ?_
  rintro e w5 ⟨rfl, hb5⟩
  have B5 := B4.trans (hb5.mono B4.size)
  have bA5 := bA4.call hb5
  clear kA hb5
  have kA := bA5.cell
  have HV := Lib.hid (show worldOk x = facesOk x.exps by unfold worldOk; rw [O1.out, O2.out, O3.out, O4.out]; rfl)
  obtain ⟨R, hR⟩ : ∃ R, facesOk x.exps = R := ⟨_, rfl⟩
  rw [hR] at HV ⊢
  clear hR
  go_wp2
  exact bodyPost_ret (v := .bool R) (by simp [results, Tryz.results42, go_sem]) rfl ⟨by rw [HV.out], B5⟩
set_option maxHeartbeats 1000000 in
set_option maxRecDepth 20000 in
theorem worldOk_s (x : Wo) (cs : List Value) (w : World) (hcs : D.Ats w anyB x.ds cs) :
    Calls Tryz.prog 13 #[.agg cs.toArray] w fun e w' => e = .returned (.bool (worldOk x)) ∧ Below w.heap.size w w' := by
  have HX := Lib.hid hcs
  obtain ⟨p, q, r, A, m, c0, A', m', c1, rfl⟩ := Wo.form hcs
  clear hcs
  go_enter Tryz.func13, Tryz.ntmps13
  go_wp2_with fail
  refine (l07WorldOk_s x _ _ (HX.out.below ((Below.refl _ _).alloc (Nat.le_refl _) _))).mono ?_
  rintro e w1 ⟨rfl, hb1⟩
  obtain ⟨B1, -⟩ := box1 (cA := [_, _, _, _, _]) hb1
  go_wp2
  go_ret
  exact ⟨rfl, B1⟩
end Go.Proofs.YtklhkdihokgpeaaGreatDoor
