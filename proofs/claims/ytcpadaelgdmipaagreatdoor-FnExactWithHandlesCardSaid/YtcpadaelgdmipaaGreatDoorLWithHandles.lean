/- WithHandles: the law. -/
import Derived.Test.YtcpadaelgdmipaaGreatDoorPkO
import Derived.Test.YtcpadaelgdmipaaGreatDoorPkG
import Derived.Test.YtcpadaelgdmipaaGreatDoorPkP
import Derived.Test.YtcpadaelgdmipaaGreatDoorPkMk
import Derived.Test.YtcpadaelgdmipaaGreatDoorPkIn
import Derived.Test.YtcpadaelgdmipaaGreatDoorPkNw
import Derived.Deep.DeepCutAuto
import Derived.Deep.RegionHeld3
namespace Go.Proofs.YtcpadaelgdmipaaGreatDoor
open Go.RowKit Go.ChangeShapes Go.WideShapes

theorem Va.counts_le (x : Va) : D.counts x.ds ≤ 7 * D.totals x.ds + 4 := by
  induction x using Va.ind with
  | h k m t kids ih =>
    have key : ∀ ks : List Va, (∀ y ∈ ks, D.counts y.ds ≤ 7 * D.totals y.ds + 4) → D.counts (ks.flatMap Va.ds) ≤ 7 * D.totals (ks.flatMap Va.ds) + 4 * ks.length := by
      intro ks
      induction ks with
      | nil => intro _; simp [D.counts]
      | cons y r ihr =>
        intro h
        have h1 := h y (by simp)
        have h2 := ihr (fun z hz => h z (by simp [hz]))
        rw [List.flatMap_cons, D.counts_append, D.totals_append, List.length_cons]
        omega
    have h1 := key kids ih
    have e1 : D.counts (Va.ds (.mk k m t kids)) = 3 + D.counts (kids.flatMap Va.ds) := by rw [Va.ds_eq]; simp [D.counts, D.count, rows]; omega
    have e2 : D.totals (Va.ds (.mk k m t kids)) = t.size + (kids.length + D.totals (kids.flatMap Va.ds)) := by
      rw [Va.ds_eq]; simp [D.totals, D.total, rows]
    omega
theorem Va.topsC_le (x : Va) : D.topsC x.ds ≤ 7 * D.totals x.ds + 4 := by
  have h := Va.counts_le x
  obtain ⟨k, m, t, kids⟩ := x
  rw [Va.ds_eq] at h ⊢
  simp only [D.topsC, D.topC, D.counts, D.count, rows] at h ⊢
  omega
theorem toValue_c (x : Va) (cs : List Value) (w : World) (h : D.Ats w anyB x.ds cs) (ht : D.totals x.ds ≤ 1048576) : Calls Tryz.prog 8 #[.agg cs.toArray] w (RetDs x.ds w) := toValue_w x cs w h ht
theorem eqValue_c (x y : Va) (cs cs' : List Value) (w : World) (h : D.Ats w anyB x.ds cs) (h' : D.Ats w anyB y.ds cs') :
    Calls Tryz.prog 12 #[.agg cs.toArray, .agg cs'.toArray] w fun e w' => e = .returned (.bool (Va.same x y)) ∧ Below w.heap.size w w' := eqValue_w x y cs cs' w h h'
theorem toType_c (x : Ty) (cs : List Value) (w : World) (h : D.Ats w anyB x.ds cs) (ht : D.totals x.ds ≤ 1048576) : Calls Tryz.prog 9 #[.agg cs.toArray] w (RetDs x.ds w) := toType_w x cs w h ht
theorem eqType_c (x y : Ty) (cs cs' : List Value) (w : World) (h : D.Ats w anyB x.ds cs) (h' : D.Ats w anyB y.ds cs') :
    Calls Tryz.prog 13 #[.agg cs.toArray, .agg cs'.toArray] w fun e w' => e = .returned (.bool (Ty.same x y)) ∧ Below w.heap.size w w' := eqType_w x y cs cs' w h h'
theorem toInt64S_c (l : List Int) (v : Value) (w : World) (hv : D.At w anyB (rows intD 1 l) v) (ht : l.length ≤ 1048576) : Calls Tryz.prog 10 #[v] w (RetD (rows intD 1 l) w) := toInt64S_w l v w hv ht
theorem ints_refl (l : List Int) : pairs sameI l l = true := pairs_refl (q := sameI) (fun x _ => by simp [sameI])
theorem wh_count (v : Va) (t : Ty) (ns : List Int) (Rv : Va) (Rn : Int) (hr : whV v t ns = (Rv, Rn)) (ht : v.nodes ≤ 2000000) : 1 + D.topsC Rv.ds ≤ 1000000000000 := by
  have hz : D.topsC zVa.ds = 0 := by simp [zVa, Va.ds_eq, D.topsC, D.topC, rows, D.counts]
  have htc : ∀ l : List D, D.topsC l ≤ D.counts l := fun l => by
    induction l with
    | nil => simp [D.topsC, D.counts]
    | cons d r ih =>
      have : D.topC d ≤ D.count d := by cases d <;> simp [D.topC, D.count]
      simp only [D.topsC, D.counts]; omega
  have e : Rv = (whV v t ns).1 := by rw [hr]
  rw [e]
  unfold whV
  split
  · split
    · have h1 := wth_counts v t ns
      have h2 := htc (wth v t ns).ds
      show 1 + D.topsC (wth v t ns).ds ≤ _
      omega
    · rw [hz]; omega
  · rw [hz]; omega
theorem spec_wh (X : Va) (X' : Ty) (NS : List Int) (Rv : Va) (Rn : Int) (hR : whV X X' NS = (Rv, Rn)) (cs cs' : List Value) (vN : Value) (W : World) (hnd : X.nodes ≤ 2000000) (hp : D.totals X'.ds ≤ 1048576) (hnl : NS.length ≤ 2000000) (q1 : D.Ats W anyB X.ds cs) (q2 : D.Ats W anyB X'.ds cs') (q3 : D.At W anyB (rows intD 1 NS) vN) :
    Calls Tryz.prog 7 #[.agg cs.toArray, .agg cs'.toArray, vN] W fun e w' => ∃ cs, e = .returned (.tuple #[.agg cs.toArray, .int .i64 Rn]) ∧ SepsIn w' W.heap.size w'.heap.size Rv.ds cs ∧ Below W.heap.size W w' := by
  obtain ⟨A, c, rfl, -, -⟩ := rows_form intD_length q3
  exact (whRet_s X X' NS (Rv, Rn) hR A c cs cs' W hnd hp hnl q1 q2 q3).mono fun _ _ h => h
theorem impl_wh (X : Va) (X' : Ty) (NS : List Int) (Rv : Va) (Rn : Int) (hR : whV X X' NS = (Rv, Rn)) (cs cs' : List Value) (vN : Value) (W : World) (ht : Tabs W) (hnd : X.nodes ≤ 2000000) (hp : D.totals X'.ds ≤ 1048576) (hnl : NS.length ≤ 2000000) (q1 : D.Ats W anyB X.ds cs) (q2 : D.Ats W anyB X'.ds cs') (q3 : D.At W anyB (rows intD 1 NS) vN) :
    Calls Tryz.prog 11 #[.agg cs.toArray, .agg cs'.toArray, vN] W fun e w' => ∃ cs, e = .returned (.tuple #[.agg cs.toArray, .int .i64 Rn]) ∧ SepsIn w' W.heap.size w'.heap.size Rv.ds cs ∧ Below W.heap.size W w' := by
  obtain ⟨A, c, rfl, -, -⟩ := rows_form intD_length q3
  exact (whRet_i X X' NS (Rv, Rn) hR A c cs cs' W ht hnd hp hnl q1 q2 q3).mono fun _ _ h => h
theorem arr_getL {α : Type} {l : List α} {i : Nat} {o : α} (h : l[i]? = some o) : (l.toArray)[i]? = some o := by simpa using h
set_option maxHeartbeats 16000000 in
set_option maxRecDepth 20000 in
theorem law_FnExactWithHandles {H : Type} {enc : TypeId × Value → H} {b0 b1 b2 : Nat} {w : World} (v : Value) (d : DataW H) (p : List MemPlace) (hv : Value.okWide Tryz.prog w .any b0 24 v)
    (h : DataW.Trod enc Tryz.prog w 0 (fun _ => true) true 24 v d p) (v' : Value) (d' : DataW H) (p' : List MemPlace) (hv' : Value.okWide Tryz.prog w .any b1 28 v')
    (h' : DataW.Trod enc Tryz.prog w 0 (fun _ => true) true 28 v' d' p') (v'' : Value) (d'' : DataW H) (p'' : List MemPlace) (hv'' : Value.okWide Tryz.prog w .any b2 29 v'')
    (h'' : DataW.Trod enc Tryz.prog w 0 (fun _ => true) true 29 v'' d'' p'') (ht : Tabs w) :
    Calls Tryz.prog 3 #[v, v', v''] w fun e w' => e = .returned (.bool true) ∧ Below w.heap.size w w' := by
  obtain ⟨cs, X, rfl, hx⟩ := Value_arg hv h
  obtain ⟨cs', X', rfl, hx'⟩ := Type_arg hv' h'
  obtain ⟨NS, hxn⟩ := Int64S_arg hv'' h''
  clear hv h hv' h' hv'' h''
  obtain ⟨k0, k1, k2, k3A, k3m, k3c, rfl⟩ := Va.form hx
  obtain ⟨n0, n1, n2A, n2m, n2c, n3A, n3m, n3c, rfl⟩ := Ty.form hx'
  obtain ⟨AN, cN, rfl, hNn, hNc⟩ := rows_form intD_length hxn
  unfold maxLen at hNc
  have HT := Lib.hid ht
  have HX := Lib.hid hx
  have HX' := Lib.hid hx'
  have HN := Lib.hid hxn
  clear hx hx' hxn ht
  obtain ⟨R, hR⟩ : ∃ R, whV X X' NS = R := ⟨_, rfl⟩
  obtain ⟨Rv, Rn⟩ := R
  have hbb : (Rn != Rn) = false := by simp
  have HR := Lib.hid hR
  have HCR := Lib.hid (wh_count X X' NS Rv Rn hR)
  have hnt := Va.nodes_total X
  clear hR
  by_cases hs1 : NS.length ≤ 1048576
  rotate_left
  · have hs2 : (1048576 : Int) < (NS.length : Int) := by omega
    go_enter Tryz.func3, Tryz.ntmps3
    go_wp2
    go_ret
    exact ⟨rfl, ((Below.refl _ _).alloc (Nat.le_refl _) _).alloc (by simp) _⟩
  have hs2 : ¬ (1048576 : Int) < (NS.length : Int) := by omega
  go_enter Tryz.func3, Tryz.ntmps3
  go_wp2_with fail
  refine (szValue_w X _ _ _ (HX.out.below (by repeat (first | exact Below.refl _ _ | refine Below.alloc ?_ (by first | omega | (simp <;> omega)) _))) (by omega) (by omega)).mono ?_
  rintro e w1 ⟨rfl, hb1⟩
  obtain ⟨B1, bA, bB⟩ := box2 (cA := [_, _, _, _]) (cB := [_, _, _, _]) hb1
  clear hb1
  by_cases hle : (D.totals X.ds : Int) ≤ 1048576
  rotate_left
  · rw [left_no hle]
    go_wp2
    go_ret
    exact ⟨rfl, B1⟩
  rw [left_yes hle]
  have hg : ¬ (1048576 - (D.totals X.ds : Int) < 0) := by omega
  have cA := bA.cell
  have cB := bB.cell
  go_wp2_with fail
  refine (szType_w X' _ _ _ (HX'.out.below B1) (by omega) (by omega)).mono ?_
  rintro e w2 ⟨rfl, hb2⟩
  clear cA cB
  have B2 := B1.trans (hb2.mono B1.size)
  replace bA := bA.call hb2
  replace bB := bB.call hb2
  clear B1 hb2
  by_cases hle' : (D.totals X'.ds : Int) ≤ 1048576 - D.totals X.ds
  rotate_left
  · rw [left_no hle']
    go_wp2
    go_ret
    exact ⟨rfl, B2⟩
  rw [left_yes hle']
  have hp2 : D.totals X'.ds ≤ 1048576 := by omega
  have hnd : X.nodes ≤ 2000000 := by omega
  have hnl : NS.length ≤ 2000000 := by omega
  have HC := Lib.hid (HCR.out hnd)
  have hg' : ¬ (1048576 - (D.totals X.ds : Int) - D.totals X'.ds < 0) := by omega
  have cA := bA.cell
  have cB := bB.cell
  clear hnt HCR
  go_upto_region 10 with fail
  go_cut [8, 9] (fun s s9 wx => ∃ (gW : Nat) (u0 u1 : Int) (u2 : ByteArray) (u3A : Option Addr) (u3m u3c : Nat), s = .pointer (some ⟨gW, 0, none⟩) ∧ s9 = .int .i64 Rn ∧ D.Ats wx (fun b => b < wx.heap.size) Rv.ds [.int .i64 u0, .int .i64 u1, .string u2, .slice u3A u3m u3c] ∧ Box wx gW 34 [.int .i64 u0, .int .i64 u1, .string u2, .slice u3A u3m u3c] ∧ Below w2.heap.size w2 wx)
  case first =>
    have lA9 := bA.lt
    have lB9 := bB.lt
    have bA9 := bA
    have bB9 := bB
    have HK8 : ∀ W : World, Below w2.heap.size w2 W → W.cell? ⟨w.heap.size, 0, none⟩ = some (.int .i64 k0) ∧ W.cell? ⟨w.heap.size, 1, none⟩ = some (.int .i64 k1) ∧ W.cell? ⟨w.heap.size, 2, none⟩ = some (.string k2) ∧ W.cell? ⟨w.heap.size, 3, none⟩ = some (.slice k3A k3m k3c) ∧ W.cell? ⟨w.heap.size + 1, 0, none⟩ = some (.int .i64 n0) ∧ W.cell? ⟨w.heap.size + 1, 1, none⟩ = some (.string n1) ∧ W.cell? ⟨w.heap.size + 1, 2, none⟩ = some (.slice n2A n2m n2c) ∧ W.cell? ⟨w.heap.size + 1, 3, none⟩ = some (.slice n3A n3m n3c) := fun W h => ⟨(h.cell (p := ⟨w.heap.size, 0, none⟩) lA9).trans (bA9.cell 0), (h.cell (p := ⟨w.heap.size, 1, none⟩) lA9).trans (bA9.cell 1), (h.cell (p := ⟨w.heap.size, 2, none⟩) lA9).trans (bA9.cell 2), (h.cell (p := ⟨w.heap.size, 3, none⟩) lA9).trans (bA9.cell 3), (h.cell (p := ⟨w.heap.size + 1, 0, none⟩) lB9).trans (bB9.cell 0), (h.cell (p := ⟨w.heap.size + 1, 1, none⟩) lB9).trans (bB9.cell 1), (h.cell (p := ⟨w.heap.size + 1, 2, none⟩) lB9).trans (bB9.cell 2), (h.cell (p := ⟨w.heap.size + 1, 3, none⟩) lB9).trans (bB9.cell 3)⟩
    have HV9 := Lib.hid (fun W (h : Below w2.heap.size w2 W) => toValue_c X _ W (HX.out.below (B2.trans (h.mono B2.size))) (by omega))
    have HT9 := Lib.hid (fun W (h : Below w2.heap.size w2 W) => toType_c X' _ W (HX'.out.below (B2.trans (h.mono B2.size))) (by omega))
    have HN9 := Lib.hid (fun W (h : Below w2.heap.size w2 W) => toInt64S_c NS _ W (HN.out.below (B2.trans (h.mono B2.size))) (by omega))
    have HC9 := Lib.hid (fun W (h : Below w2.heap.size w2 W) => (fun cs cs' vN qV qT qN => spec_wh X X' NS Rv Rn HR.out cs cs' vN W hnd hp2 hnl qV qT qN))
    have eC : Below w2.heap.size w2 w2.drew := (Below.refl _ w2).drew
    refine wp_region_held_drew (S := (fun W => W.cell? ⟨w.heap.size, 0, none⟩ = some (.int .i64 k0) ∧ W.cell? ⟨w.heap.size, 1, none⟩ = some (.int .i64 k1) ∧ W.cell? ⟨w.heap.size, 2, none⟩ = some (.string k2) ∧ W.cell? ⟨w.heap.size, 3, none⟩ = some (.slice k3A k3m k3c) ∧ W.cell? ⟨w.heap.size + 1, 0, none⟩ = some (.int .i64 n0) ∧ W.cell? ⟨w.heap.size + 1, 1, none⟩ = some (.string n1) ∧ W.cell? ⟨w.heap.size + 1, 2, none⟩ = some (.slice n2A n2m n2c) ∧ W.cell? ⟨w.heap.size + 1, 3, none⟩ = some (.slice n3A n3m n3c))) (by kernel_rfl) ?_ (fun hHeld => ?_)
    · (try dsimp only); (first | with_reducible assumption | (with_reducible exact HK8 _ eC))
    refine wpAnyH_take (i := 0) (v := ?_) (arr_getL rfl) (by kernel_rfl) (by kernel_rfl) (by kernel_rfl) (fun _ _ _ h => h) (Or.inl ⟨by rfl, ?_⟩) (by assumption) ?_
    rotate_left 1
    · (intro W hSw; (try dsimp only at hSw); go_simp; try with_reducible rfl)
    (try simp only [Act.put, List.setIfInBounds_toArray, List.set_cons_zero, List.set_cons_succ])
    refine wpAnyH_take (i := 2) (v := ?_) (arr_getL rfl) (by kernel_rfl) (by kernel_rfl) (by kernel_rfl) (fun _ _ _ h => h) (Or.inl ⟨by rfl, ?_⟩) (by assumption) ?_
    rotate_left 1
    · (intro W hSw; (try dsimp only at hSw); go_simp; try with_reducible rfl)
    (try simp only [Act.put, List.setIfInBounds_toArray, List.set_cons_zero, List.set_cons_succ])
    refine wpAnyH_take (i := 4) (v := ?_) (arr_getL rfl) (by kernel_rfl) (by kernel_rfl) (by kernel_rfl) (fun _ _ _ h => h) (Or.inl ⟨by rfl, ?_⟩) (by assumption) ?_
    rotate_left 1
    · (intro W hSw; (try dsimp only at hSw); go_simp; try with_reducible rfl)
    (try simp only [Act.put, List.setIfInBounds_toArray, List.set_cons_zero, List.set_cons_succ])
    refine wpAnyH_ready (rs := [1, 10]) (by kernel_rfl) (by simp) ?_
    refine AllReadyH.cons (arr_getL rfl) (fun K hK => ?_) ?_
    focus
     (go_simp; go_at_call 8; ((with_reducible refine (HV9.out _ eC).mono ?_); rintro e wV ⟨csV, rfl, hcs, hb⟩; replace eC := eC.trans (hb.mono eC.size); have qV : D.Ats wV anyB X.ds csV := hcs.weaken (fun _ _ => trivial); clear hb hcs))
     (first | refine hK.out _ _ ?_ (fun hHeld => ?_) | (go_wp2_with fail; refine hK.out _ _ ?_ (fun hHeld => ?_)))
     · (try dsimp only); (first | with_reducible assumption | (with_reducible exact HK8 _ eC))
     clear hK K
     (try simp only [Act.put, List.setIfInBounds_toArray, List.set_cons_zero, List.set_cons_succ])
     refine wpAnyH_ready (rs := [3, 10]) (by kernel_rfl) (by simp) ?_
     refine AllReadyH.cons (arr_getL rfl) (fun K hK => ?_) ?_
     focus
      (go_simp; go_at_call 9; ((with_reducible refine (HT9.out _ eC).mono ?_); rintro e wT ⟨csT, rfl, hcs, hb⟩; replace eC := eC.trans (hb.mono eC.size); replace qV := qV.below hb; have qT : D.Ats wT anyB X'.ds csT := hcs.weaken (fun _ _ => trivial); clear hb hcs))
      (first | refine hK.out _ _ ?_ (fun hHeld => ?_) | (go_wp2_with fail; refine hK.out _ _ ?_ (fun hHeld => ?_)))
      · (try dsimp only); (first | with_reducible assumption | (with_reducible exact HK8 _ eC))
      clear hK K
      (try simp only [Act.put, List.setIfInBounds_toArray, List.set_cons_zero, List.set_cons_succ])
      refine wpAnyH_ready (rs := [5, 10]) (by kernel_rfl) (by simp) ?_
      refine AllReadyH.cons (arr_getL rfl) (fun K hK => ?_) ?_
      focus
       (go_simp; go_at_call 10; ((with_reducible refine (HN9.out _ eC).mono ?_); rintro e wN ⟨vN, rfl, hcs, hb⟩; replace eC := eC.trans (hb.mono eC.size); replace qV := qV.below hb; replace qT := qT.below hb; have qN : D.At wN anyB (rows intD 1 NS) vN := hcs.weaken (fun _ _ => trivial); clear hb hcs))
       (first | refine hK.out _ _ ?_ (fun hHeld => ?_) | (go_wp2_with fail; refine hK.out _ _ ?_ (fun hHeld => ?_)))
       · (try dsimp only); (first | with_reducible assumption | (with_reducible exact HK8 _ eC))
       clear hK K
       (try simp only [Act.put, List.setIfInBounds_toArray, List.set_cons_zero, List.set_cons_succ])
       refine wpAnyH_ready (rs := [6, 10]) (by kernel_rfl) (by simp) ?_
       refine AllReadyH.cons (arr_getL rfl) (fun K hK => ?_) ?_
       focus
        (go_simp; go_at_call 7; ((with_reducible refine (HC9.out _ eC _ _ _ qV qT qN).mono ?_); rintro e wR ⟨csR, rfl, hsR, hb⟩; obtain ⟨r0, r1, r2, r3A, r3m, r3c, rfl⟩ := Va.form hsR.ats; replace eC := eC.trans (hb.mono eC.size)))
        (first | refine hK.out _ _ ?_ (fun hHeld => ?_) | (go_wp2_with fail; refine hK.out _ _ ?_ (fun hHeld => ?_)))
        · (try dsimp only); (first | with_reducible assumption | (with_reducible exact HK8 _ eC))
        clear hK K
        (try simp only [Act.put, List.setIfInBounds_toArray, List.set_cons_zero, List.set_cons_succ])
       rotate_left 1
       refine AllReadyH.cons (arr_getL rfl) (fun K hK => ?_) ?_
       focus
        (go_simp; have gZ : w2.heap.size ≤ wN.heap.size := eC.size; have bZ : Box (wN.alloc (.cells #[.int .i64 0, .int .i64 0, .string ⟨#[]⟩, .slice none 0 0] 34)) wN.heap.size 34 [.int .i64 0, .int .i64 0, .string ⟨#[]⟩, .slice none 0 0] := Box.new wN _ _; have aZ : Below wN.heap.size wN (wN.alloc (.cells #[.int .i64 0, .int .i64 0, .string ⟨#[]⟩, .slice none 0 0] 34)) := (Below.refl _ _).alloc (Nat.le_refl _) _; replace eC := eC.trans (aZ.mono eC.size); replace qV := qV.below aZ; replace qT := qT.below aZ; replace qN := qN.below aZ)
        (first | refine hK.out _ _ ?_ (fun hHeld => ?_) | (go_wp2_with fail; refine hK.out _ _ ?_ (fun hHeld => ?_)))
        · (try dsimp only); (first | with_reducible assumption | (with_reducible exact HK8 _ eC))
        clear hK K
        (try simp only [Act.put, List.setIfInBounds_toArray, List.set_cons_zero, List.set_cons_succ])
        refine wpAnyH_ready (rs := [6]) (by kernel_rfl) (by simp) ?_
        refine AllReadyH.cons (arr_getL rfl) (fun K hK => ?_) ?_
        focus
         (go_simp; go_at_call 7; ((with_reducible refine (HC9.out _ eC _ _ _ qV qT qN).mono ?_); rintro e wR ⟨csR, rfl, hsR, hb⟩; obtain ⟨r0, r1, r2, r3A, r3m, r3c, rfl⟩ := Va.form hsR.ats; replace eC := eC.trans (hb.mono eC.size); have hlo := bZ.lt; replace bZ := Box.call bZ hb; have kZ := bZ.cell; have fZ := bZ.frozen; have lZ := bZ.lt))
         (first | refine hK.out _ _ ?_ (fun hHeld => ?_) | (go_wp2_with fail; refine hK.out _ _ ?_ (fun hHeld => ?_)))
         · (try dsimp only); (first | with_reducible assumption | (with_reducible exact HK8 _ eC))
         clear hK K
         (try simp only [Act.put, List.setIfInBounds_toArray, List.set_cons_zero, List.set_cons_succ])
        rotate_left 1
        exact AllReadyH.nil
       rotate_left 1
       exact AllReadyH.nil
      rotate_left 2
      refine AllReadyH.cons (arr_getL rfl) (fun K hK => ?_) ?_
      focus
       (go_simp; have gZ : w2.heap.size ≤ wT.heap.size := eC.size; have bZ : Box (wT.alloc (.cells #[.int .i64 0, .int .i64 0, .string ⟨#[]⟩, .slice none 0 0] 34)) wT.heap.size 34 [.int .i64 0, .int .i64 0, .string ⟨#[]⟩, .slice none 0 0] := Box.new wT _ _; have aZ : Below wT.heap.size wT (wT.alloc (.cells #[.int .i64 0, .int .i64 0, .string ⟨#[]⟩, .slice none 0 0] 34)) := (Below.refl _ _).alloc (Nat.le_refl _) _; replace eC := eC.trans (aZ.mono eC.size); replace qV := qV.below aZ; replace qT := qT.below aZ)
       (first | refine hK.out _ _ ?_ (fun hHeld => ?_) | (go_wp2_with fail; refine hK.out _ _ ?_ (fun hHeld => ?_)))
       · (try dsimp only); (first | with_reducible assumption | (with_reducible exact HK8 _ eC))
       clear hK K
       (try simp only [Act.put, List.setIfInBounds_toArray, List.set_cons_zero, List.set_cons_succ])
       refine wpAnyH_ready (rs := [5]) (by kernel_rfl) (by simp) ?_
       refine AllReadyH.cons (arr_getL rfl) (fun K hK => ?_) ?_
       focus
        (go_simp; go_at_call 10; ((with_reducible refine (HN9.out _ eC).mono ?_); rintro e wN ⟨vN, rfl, hcs, hb⟩; replace eC := eC.trans (hb.mono eC.size); replace qV := qV.below hb; replace qT := qT.below hb; replace bZ := Box.call bZ hb; have qN : D.At wN anyB (rows intD 1 NS) vN := hcs.weaken (fun _ _ => trivial); clear hb hcs))
        (first | refine hK.out _ _ ?_ (fun hHeld => ?_) | (go_wp2_with fail; refine hK.out _ _ ?_ (fun hHeld => ?_)))
        · (try dsimp only); (first | with_reducible assumption | (with_reducible exact HK8 _ eC))
        clear hK K
        (try simp only [Act.put, List.setIfInBounds_toArray, List.set_cons_zero, List.set_cons_succ])
        refine wpAnyH_ready (rs := [6]) (by kernel_rfl) (by simp) ?_
        refine AllReadyH.cons (arr_getL rfl) (fun K hK => ?_) ?_
        focus
         (go_simp; go_at_call 7; ((with_reducible refine (HC9.out _ eC _ _ _ qV qT qN).mono ?_); rintro e wR ⟨csR, rfl, hsR, hb⟩; obtain ⟨r0, r1, r2, r3A, r3m, r3c, rfl⟩ := Va.form hsR.ats; replace eC := eC.trans (hb.mono eC.size); have hlo := bZ.lt; replace bZ := Box.call bZ hb; have kZ := bZ.cell; have fZ := bZ.frozen; have lZ := bZ.lt))
         (first | refine hK.out _ _ ?_ (fun hHeld => ?_) | (go_wp2_with fail; refine hK.out _ _ ?_ (fun hHeld => ?_)))
         · (try dsimp only); (first | with_reducible assumption | (with_reducible exact HK8 _ eC))
         clear hK K
         (try simp only [Act.put, List.setIfInBounds_toArray, List.set_cons_zero, List.set_cons_succ])
        rotate_left 1
        exact AllReadyH.nil
       rotate_left 1
       exact AllReadyH.nil
      rotate_left 1
      exact AllReadyH.nil
     rotate_left 3
     refine AllReadyH.cons (arr_getL rfl) (fun K hK => ?_) ?_
     focus
      (go_simp; have gZ : w2.heap.size ≤ wV.heap.size := eC.size; have bZ : Box (wV.alloc (.cells #[.int .i64 0, .int .i64 0, .string ⟨#[]⟩, .slice none 0 0] 34)) wV.heap.size 34 [.int .i64 0, .int .i64 0, .string ⟨#[]⟩, .slice none 0 0] := Box.new wV _ _; have aZ : Below wV.heap.size wV (wV.alloc (.cells #[.int .i64 0, .int .i64 0, .string ⟨#[]⟩, .slice none 0 0] 34)) := (Below.refl _ _).alloc (Nat.le_refl _) _; replace eC := eC.trans (aZ.mono eC.size); replace qV := qV.below aZ)
      (first | refine hK.out _ _ ?_ (fun hHeld => ?_) | (go_wp2_with fail; refine hK.out _ _ ?_ (fun hHeld => ?_)))
      · (try dsimp only); (first | with_reducible assumption | (with_reducible exact HK8 _ eC))
      clear hK K
      (try simp only [Act.put, List.setIfInBounds_toArray, List.set_cons_zero, List.set_cons_succ])
      refine wpAnyH_ready (rs := [3]) (by kernel_rfl) (by simp) ?_
      refine AllReadyH.cons (arr_getL rfl) (fun K hK => ?_) ?_
      focus
       (go_simp; go_at_call 9; ((with_reducible refine (HT9.out _ eC).mono ?_); rintro e wT ⟨csT, rfl, hcs, hb⟩; replace eC := eC.trans (hb.mono eC.size); replace qV := qV.below hb; replace bZ := Box.call bZ hb; have qT : D.Ats wT anyB X'.ds csT := hcs.weaken (fun _ _ => trivial); clear hb hcs))
       (first | refine hK.out _ _ ?_ (fun hHeld => ?_) | (go_wp2_with fail; refine hK.out _ _ ?_ (fun hHeld => ?_)))
       · (try dsimp only); (first | with_reducible assumption | (with_reducible exact HK8 _ eC))
       clear hK K
       (try simp only [Act.put, List.setIfInBounds_toArray, List.set_cons_zero, List.set_cons_succ])
       refine wpAnyH_ready (rs := [5]) (by kernel_rfl) (by simp) ?_
       refine AllReadyH.cons (arr_getL rfl) (fun K hK => ?_) ?_
       focus
        (go_simp; go_at_call 10; ((with_reducible refine (HN9.out _ eC).mono ?_); rintro e wN ⟨vN, rfl, hcs, hb⟩; replace eC := eC.trans (hb.mono eC.size); replace qV := qV.below hb; replace qT := qT.below hb; replace bZ := Box.call bZ hb; have qN : D.At wN anyB (rows intD 1 NS) vN := hcs.weaken (fun _ _ => trivial); clear hb hcs))
        (first | refine hK.out _ _ ?_ (fun hHeld => ?_) | (go_wp2_with fail; refine hK.out _ _ ?_ (fun hHeld => ?_)))
        · (try dsimp only); (first | with_reducible assumption | (with_reducible exact HK8 _ eC))
        clear hK K
        (try simp only [Act.put, List.setIfInBounds_toArray, List.set_cons_zero, List.set_cons_succ])
        refine wpAnyH_ready (rs := [6]) (by kernel_rfl) (by simp) ?_
        refine AllReadyH.cons (arr_getL rfl) (fun K hK => ?_) ?_
        focus
         (go_simp; go_at_call 7; ((with_reducible refine (HC9.out _ eC _ _ _ qV qT qN).mono ?_); rintro e wR ⟨csR, rfl, hsR, hb⟩; obtain ⟨r0, r1, r2, r3A, r3m, r3c, rfl⟩ := Va.form hsR.ats; replace eC := eC.trans (hb.mono eC.size); have hlo := bZ.lt; replace bZ := Box.call bZ hb; have kZ := bZ.cell; have fZ := bZ.frozen; have lZ := bZ.lt))
         (first | refine hK.out _ _ ?_ (fun hHeld => ?_) | (go_wp2_with fail; refine hK.out _ _ ?_ (fun hHeld => ?_)))
         · (try dsimp only); (first | with_reducible assumption | (with_reducible exact HK8 _ eC))
         clear hK K
         (try simp only [Act.put, List.setIfInBounds_toArray, List.set_cons_zero, List.set_cons_succ])
        rotate_left 1
        exact AllReadyH.nil
       rotate_left 1
       exact AllReadyH.nil
      rotate_left 1
      exact AllReadyH.nil
     rotate_left 1
     exact AllReadyH.nil
    rotate_left 4
    refine AllReadyH.cons (arr_getL rfl) (fun K hK => ?_) ?_
    focus
     (go_simp; replace eC : Below w2.heap.size w2 ((w2.alloc (.cells #[.int .i64 0, .int .i64 0, .string ⟨#[]⟩, .slice none 0 0] 34)).drew) := (((Below.refl _ w2).alloc (Nat.le_refl _) _).drew); have gZ : w2.heap.size ≤ w2.heap.size := Nat.le_refl _; have bZ : Box ((w2.alloc (.cells #[.int .i64 0, .int .i64 0, .string ⟨#[]⟩, .slice none 0 0] 34)).drew) w2.heap.size 34 [.int .i64 0, .int .i64 0, .string ⟨#[]⟩, .slice none 0 0] := Box.new w2 _ _)
     (first | refine hK.out _ _ ?_ (fun hHeld => ?_) | (go_wp2_with fail; refine hK.out _ _ ?_ (fun hHeld => ?_)))
     · (try dsimp only); (first | with_reducible assumption | (with_reducible exact HK8 _ eC))
     clear hK K
     (try simp only [Act.put, List.setIfInBounds_toArray, List.set_cons_zero, List.set_cons_succ])
     refine wpAnyH_ready (rs := [1]) (by kernel_rfl) (by simp) ?_
     refine AllReadyH.cons (arr_getL rfl) (fun K hK => ?_) ?_
     focus
      (go_simp; go_at_call 8; ((with_reducible refine (HV9.out _ eC).mono ?_); rintro e wV ⟨csV, rfl, hcs, hb⟩; replace eC := eC.trans (hb.mono eC.size); replace bZ := Box.call bZ hb; have qV : D.Ats wV anyB X.ds csV := hcs.weaken (fun _ _ => trivial); clear hb hcs))
      (first | refine hK.out _ _ ?_ (fun hHeld => ?_) | (go_wp2_with fail; refine hK.out _ _ ?_ (fun hHeld => ?_)))
      · (try dsimp only); (first | with_reducible assumption | (with_reducible exact HK8 _ eC))
      clear hK K
      (try simp only [Act.put, List.setIfInBounds_toArray, List.set_cons_zero, List.set_cons_succ])
      refine wpAnyH_ready (rs := [3]) (by kernel_rfl) (by simp) ?_
      refine AllReadyH.cons (arr_getL rfl) (fun K hK => ?_) ?_
      focus
       (go_simp; go_at_call 9; ((with_reducible refine (HT9.out _ eC).mono ?_); rintro e wT ⟨csT, rfl, hcs, hb⟩; replace eC := eC.trans (hb.mono eC.size); replace qV := qV.below hb; replace bZ := Box.call bZ hb; have qT : D.Ats wT anyB X'.ds csT := hcs.weaken (fun _ _ => trivial); clear hb hcs))
       (first | refine hK.out _ _ ?_ (fun hHeld => ?_) | (go_wp2_with fail; refine hK.out _ _ ?_ (fun hHeld => ?_)))
       · (try dsimp only); (first | with_reducible assumption | (with_reducible exact HK8 _ eC))
       clear hK K
       (try simp only [Act.put, List.setIfInBounds_toArray, List.set_cons_zero, List.set_cons_succ])
       refine wpAnyH_ready (rs := [5]) (by kernel_rfl) (by simp) ?_
       refine AllReadyH.cons (arr_getL rfl) (fun K hK => ?_) ?_
       focus
        (go_simp; go_at_call 10; ((with_reducible refine (HN9.out _ eC).mono ?_); rintro e wN ⟨vN, rfl, hcs, hb⟩; replace eC := eC.trans (hb.mono eC.size); replace qV := qV.below hb; replace qT := qT.below hb; replace bZ := Box.call bZ hb; have qN : D.At wN anyB (rows intD 1 NS) vN := hcs.weaken (fun _ _ => trivial); clear hb hcs))
        (first | refine hK.out _ _ ?_ (fun hHeld => ?_) | (go_wp2_with fail; refine hK.out _ _ ?_ (fun hHeld => ?_)))
        · (try dsimp only); (first | with_reducible assumption | (with_reducible exact HK8 _ eC))
        clear hK K
        (try simp only [Act.put, List.setIfInBounds_toArray, List.set_cons_zero, List.set_cons_succ])
        refine wpAnyH_ready (rs := [6]) (by kernel_rfl) (by simp) ?_
        refine AllReadyH.cons (arr_getL rfl) (fun K hK => ?_) ?_
        focus
         (go_simp; go_at_call 7; ((with_reducible refine (HC9.out _ eC _ _ _ qV qT qN).mono ?_); rintro e wR ⟨csR, rfl, hsR, hb⟩; obtain ⟨r0, r1, r2, r3A, r3m, r3c, rfl⟩ := Va.form hsR.ats; replace eC := eC.trans (hb.mono eC.size); have hlo := bZ.lt; replace bZ := Box.call bZ hb; have kZ := bZ.cell; have fZ := bZ.frozen; have lZ := bZ.lt))
         (first | refine hK.out _ _ ?_ (fun hHeld => ?_) | (go_wp2_with fail; refine hK.out _ _ ?_ (fun hHeld => ?_)))
         · (try dsimp only); (first | with_reducible assumption | (with_reducible exact HK8 _ eC))
         clear hK K
         (try simp only [Act.put, List.setIfInBounds_toArray, List.set_cons_zero, List.set_cons_succ])
        rotate_left 1
        exact AllReadyH.nil
       rotate_left 1
       exact AllReadyH.nil
      rotate_left 1
      exact AllReadyH.nil
     rotate_left 1
     exact AllReadyH.nil
    rotate_left 1
    exact AllReadyH.nil
    all_goals
      refine wpAnyH_take (i := 7) (v := ?_) (arr_getL rfl) (by kernel_rfl) (by kernel_rfl) (by kernel_rfl) (fun _ _ _ h => h) (Or.inl ⟨by rfl, ?_⟩) (by assumption) ?_
      rotate_left 1
      · (intro W hSw; (try dsimp only at hSw); go_simp; try with_reducible rfl)
      (try simp only [Act.put, List.setIfInBounds_toArray, List.set_cons_zero, List.set_cons_succ])
      refine wpAnyH_take (i := 8) (v := ?_) (arr_getL rfl) (by kernel_rfl) (by kernel_rfl) (by kernel_rfl) (fun _ _ _ h => h) (Or.inl ⟨by rfl, ?_⟩) (by assumption) ?_
      rotate_left 1
      · (intro W hSw; (try dsimp only at hSw); go_simp; try with_reducible rfl)
      (try simp only [Act.put, List.setIfInBounds_toArray, List.set_cons_zero, List.set_cons_succ])
      refine wpAnyH_take (i := 9) (v := ?_) (arr_getL rfl) (by kernel_rfl) (by kernel_rfl) (by kernel_rfl) (fun _ _ _ h => h) (Or.inl ⟨by rfl, ?_⟩) (by assumption) ?_
      rotate_left 1
      · (intro W hSw; (try dsimp only at hSw); go_simp; try with_reducible rfl)
      (try simp only [Act.put, List.setIfInBounds_toArray, List.set_cons_zero, List.set_cons_succ])
      first
      | (refine wpAnyH_ready (rs := [11]) (by kernel_rfl) (by simp) ?_
         refine AllReadyH.cons (arr_getL rfl) (fun K hK => ?_) AllReadyH.nil
         go_simp
         (first | refine hK.out _ _ ?_ (fun hHeld => ?_) | (go_wp2_with fail; refine hK.out _ _ ?_ (fun hHeld => ?_)))
         · (try dsimp only); (first | with_reducible assumption | (with_reducible exact HK8 _ ((((eC.setCell gZ _).setCell gZ _).setCell gZ _).setCell gZ _)))
         clear hK K
         (try simp only [Act.put, List.setIfInBounds_toArray, List.set_cons_zero, List.set_cons_succ])
         refine wpAnyH_take (i := 12) (v := ?_) (arr_getL rfl) (by kernel_rfl) (by kernel_rfl) (by kernel_rfl) (fun _ _ _ h => h) (Or.inl ⟨by rfl, ?_⟩) (by assumption) ?_
         rotate_left 1
         · (intro W hSw; (try dsimp only at hSw); go_simp; try with_reducible rfl)
         (try simp only [Act.put, List.setIfInBounds_toArray, List.set_cons_zero, List.set_cons_succ])
         refine wpAnyH_done (by kernel_rfl) ?_ _
         clear hHeld
         go_wp2_with fail
         go_meet
         exact ⟨_, r0, r1, r2, r3A, r3m, r3c, rfl, rfl, ((((hsR.set (p := ⟨_, 0, none⟩) (.inl hlo) _).set (p := ⟨_, 1, none⟩) (.inl hlo) _).set (p := ⟨_, 2, none⟩) (.inl hlo) _).set (p := ⟨_, 3, none⟩) (.inl hlo) _).lt_.weaken (fun b (hb : b < wR.heap.size) => by simpa [World.setCell] using hb), (((bZ.set 0 (.int .i64 r0)).set 1 (.int .i64 r1)).set 2 (.string r2)).set 3 (.slice r3A r3m r3c), (((eC.setCell gZ _).setCell gZ _).setCell gZ _).setCell gZ _⟩)
      | (refine wpAnyH_ready (rs := [10]) (by kernel_rfl) (by simp) ?_
         refine AllReadyH.cons (arr_getL rfl) (fun K hK => ?_) AllReadyH.nil
         go_simp
         (first | refine hK.out _ _ ?_ (fun hHeld => ?_) | (go_wp2_with fail; refine hK.out _ _ ?_ (fun hHeld => ?_)))
         · (try dsimp only); (first | with_reducible assumption | (with_reducible exact HK8 _ (eC.alloc eC.size _)))
         clear hK K
         (try simp only [Act.put, List.setIfInBounds_toArray, List.set_cons_zero, List.set_cons_succ])
         refine wpAnyH_ready (rs := [11]) (by kernel_rfl) (by simp) ?_
         refine AllReadyH.cons (arr_getL rfl) (fun K hK => ?_) AllReadyH.nil
         go_simp
         (first | refine hK.out _ _ ?_ (fun hHeld => ?_) | (go_wp2_with fail; refine hK.out _ _ ?_ (fun hHeld => ?_)))
         · (try dsimp only); (first | with_reducible assumption | (with_reducible exact HK8 _ (eC.alloc eC.size _)))
         clear hK K
         (try simp only [Act.put, List.setIfInBounds_toArray, List.set_cons_zero, List.set_cons_succ])
         refine wpAnyH_take (i := 12) (v := ?_) (arr_getL rfl) (by kernel_rfl) (by kernel_rfl) (by kernel_rfl) (fun _ _ _ h => h) (Or.inl ⟨by rfl, ?_⟩) (by assumption) ?_
         rotate_left 1
         · (intro W hSw; (try dsimp only at hSw); go_simp; try with_reducible rfl)
         (try simp only [Act.put, List.setIfInBounds_toArray, List.set_cons_zero, List.set_cons_succ])
         refine wpAnyH_done (by kernel_rfl) ?_ _
         clear hHeld
         go_wp2_with fail
         go_meet
         exact ⟨wR.heap.size, r0, r1, r2, r3A, r3m, r3c, rfl, rfl, (hsR.lt_.below ((Below.refl _ _).alloc (Nat.le_refl _) _)).weaken (fun b (hb : b < wR.heap.size) => by simp; omega), Box.new wR _ [.int .i64 r0, .int .i64 r1, .string r2, .slice r3A r3m r3c], eC.alloc eC.size _⟩)
  case rest =>
  obtain ⟨gW, u0, u1, u2, u3A, u3m, u3c, rfl, rfl, at0, bW, E3⟩ := hcut
  obtain ⟨w3, hw3⟩ : ∃ w3, w3 = wc := ⟨_, rfl⟩
  rw [← hw3] at at0 bW E3 ⊢
  clear hw3 cA cB
  have B3 := B2.trans (E3.mono B2.size)
  replace bA := bA.call E3
  replace bB := bB.call E3
  have HB3 := Lib.hid B3.size
  have HL3 := Lib.hid (And.intro bA.lt (And.intro bB.lt bW.lt))
  have H0 := Lib.hid at0
  clear at0 E3 B2
  have cA := bA.cell
  have cB := bB.cell
  have cW := bW.cell
  -- the arguments, copied
  go_wp2_with fail
  refine (toValue_p X _ _ (HX.out.below B3) (by omega)).mono ?_
  rintro e w5 ⟨cs5, rfl, hcs5, hb5⟩
  obtain ⟨zp0, zp1, zp2, zp3A, zp3m, zp3c, rfl⟩ := Va.form hcs5.ats
  have B5 := B3.trans (hb5.mono B3.size)
  have sw5 := hb5.size
  replace bA := bA.call hb5
  replace bB := bB.call hb5
  replace bW := bW.call hb5
  replace H0 := Lib.hid (H0.out.below hb5)
  clear cA cB cW
  have QX := Lib.hid hcs5
  obtain ⟨w5b, hw5b⟩ : ∃ w5b, w5b = (w5.alloc (.cells #[.int .i64 zp0, .int .i64 zp1, .string zp2, .slice zp3A zp3m zp3c] 34)) := ⟨_, rfl⟩
  have aw5b : Below w5.heap.size w5 w5b := by rw [hw5b]; exact (Below.refl _ _).alloc (Nat.le_refl _) _
  have zw5b : w5b.heap.size = w5.heap.size + 1 := by rw [hw5b]; simp
  have bC : Box w5b w5.heap.size 34 [.int .i64 zp0, .int .i64 zp1, .string zp2, .slice zp3A zp3m zp3c] := by rw [hw5b]; exact Box.new w5 _ _
  replace bA := bA.call aw5b
  replace bB := bB.call aw5b
  replace bW := bW.call aw5b
  replace H0 := Lib.hid (H0.out.below aw5b)
  replace QX := Lib.hid (QX.out.below aw5b (by omega))
  have B5b := B5.trans (aw5b.mono B5.size)
  clear hb5 hcs5 B3 B5
  have cA := bA.cell
  have cB := bB.cell
  have cW := bW.cell
  go_upto_region 12 with fail
  rw [← hw5b]
  clear hw5b aw5b
  clear cA cB cW
  have cA := bA.cell
  have cB := bB.cell
  have cW := bW.cell
  have cC := bC.cell
  go_wp2_with fail
  refine (toType_p X' _ _ (HX'.out.below B5b) (by omega)).mono ?_
  rintro e w6 ⟨cs6, rfl, hcs6, hb6⟩
  obtain ⟨zq0, zq1, zq2A, zq2m, zq2c, zq3A, zq3m, zq3c, rfl⟩ := Ty.form hcs6.ats
  clear cA cB cW cC
  have B6 := B5b.trans (hb6.mono B5b.size)
  have sw6 := hb6.size
  replace bA := bA.call hb6
  replace bB := bB.call hb6
  replace bW := bW.call hb6
  replace bC := bC.call hb6
  replace H0 := Lib.hid (H0.out.below hb6)
  replace QX := Lib.hid (QX.out.below hb6 (by omega))
  have QY := Lib.hid hcs6
  obtain ⟨w6b, hw6b⟩ : ∃ w6b, w6b = (w6.alloc (.cells #[.int .i64 zq0, .string zq1, .slice zq2A zq2m zq2c, .slice zq3A zq3m zq3c] 40)) := ⟨_, rfl⟩
  have aw6b : Below w6.heap.size w6 w6b := by rw [hw6b]; exact (Below.refl _ _).alloc (Nat.le_refl _) _
  have zw6b : w6b.heap.size = w6.heap.size + 1 := by rw [hw6b]; simp
  have bD : Box w6b w6.heap.size 40 [.int .i64 zq0, .string zq1, .slice zq2A zq2m zq2c, .slice zq3A zq3m zq3c] := by rw [hw6b]; exact Box.new w6 _ _
  replace bA := bA.call aw6b
  replace bB := bB.call aw6b
  replace bW := bW.call aw6b
  replace bC := bC.call aw6b
  replace H0 := Lib.hid (H0.out.below aw6b)
  replace QX := Lib.hid (QX.out.below aw6b (by omega))
  replace QY := Lib.hid (QY.out.below aw6b (by omega))
  have B6b := B6.trans (aw6b.mono B6.size)
  clear hb6 hcs6 B5b B6
  have cA := bA.cell
  have cB := bB.cell
  have cW := bW.cell
  have cC := bC.cell
  go_upto_region 13 with fail
  rw [← hw6b]
  clear hw6b aw6b
  clear cA cB cW cC
  have cA := bA.cell
  have cB := bB.cell
  have cW := bW.cell
  have cC := bC.cell
  have cD := bD.cell
  go_wp2_with fail
  refine (toInt64S_p NS _ _ (HN.out.below B6b) (by omega)).mono ?_
  rintro e w7 ⟨v7, rfl, hcs7, hb7⟩
  obtain ⟨A7, c7, rfl, -, hc7⟩ := rows_form intD_length hcs7.at_
  unfold maxLen at hc7
  clear cA cB cW cC cD
  have B7 := B6b.trans (hb7.mono B6b.size)
  have sw7 := hb7.size
  replace bA := bA.call hb7
  replace bB := bB.call hb7
  replace bW := bW.call hb7
  replace bC := bC.call hb7
  replace bD := bD.call hb7
  replace H0 := Lib.hid (H0.out.below hb7)
  replace QX := Lib.hid (QX.out.below hb7 (by omega))
  replace QY := Lib.hid (QY.out.below hb7 (by omega))
  have QN := Lib.hid hcs7
  clear hb7 hcs7 B6b
  have cA := bA.cell
  have cB := bB.cell
  have cW := bW.cell
  have cC := bC.cell
  have cD := bD.cell
  -- the program
  go_wp2_with fail
  refine (impl_wh X X' NS Rv Rn HR.out _ _ _ w7 (tabs_below HT.out B7) hnd hp2 hnl QX.out.ats QY.out.ats QN.out.at_).mono ?_
  rintro e w8 ⟨cs8, rfl, hs8, hb8⟩
  obtain ⟨g0, g1, g2, g3A, g3m, g3c, rfl⟩ := Va.form hs8.ats
  clear cA cB cW cC cD
  have B8 := B7.trans (hb8.mono B7.size)
  have sw8 := hb8.size
  replace bA := bA.call hb8
  replace bB := bB.call hb8
  replace bW := bW.call hb8
  replace bC := bC.call hb8
  replace bD := bD.call hb8
  replace H0 := Lib.hid (H0.out.below hb8)
  replace QX := Lib.hid (QX.out.below hb8 (by omega))
  replace QY := Lib.hid (QY.out.below hb8 (by omega))
  replace QN := Lib.hid (QN.out.below hb8 (by omega))
  have QG := Lib.hid hs8
  obtain ⟨w8b, hw8b⟩ : ∃ w8b, w8b = (w8.alloc (.cells #[.int .i64 g0, .int .i64 g1, .string g2, .slice g3A g3m g3c] 34)) := ⟨_, rfl⟩
  have aw8b : Below w8.heap.size w8 w8b := by rw [hw8b]; exact (Below.refl _ _).alloc (Nat.le_refl _) _
  have zw8b : w8b.heap.size = w8.heap.size + 1 := by rw [hw8b]; simp
  have bG : Box w8b w8.heap.size 34 [.int .i64 g0, .int .i64 g1, .string g2, .slice g3A g3m g3c] := by rw [hw8b]; exact Box.new w8 _ _
  replace bA := bA.call aw8b
  replace bB := bB.call aw8b
  replace bW := bW.call aw8b
  replace bC := bC.call aw8b
  replace bD := bD.call aw8b
  replace H0 := Lib.hid (H0.out.below aw8b)
  replace QX := Lib.hid (QX.out.below aw8b (by omega))
  replace QY := Lib.hid (QY.out.below aw8b (by omega))
  replace QN := Lib.hid (QN.out.below aw8b (by omega))
  replace QG := Lib.hid (QG.out.below aw8b (by omega))
  have B8b := B8.trans (aw8b.mono B8.size)
  clear hb8 hs8 B7 B8
  have cA := bA.cell
  have cB := bB.cell
  have cW := bW.cell
  have cC := bC.cell
  have cD := bD.cell
  go_upto_region 15 with fail
  rw [← hw8b]
  clear hw8b aw8b
  clear cA cB cW cC cD
  have cA := bA.cell
  have cB := bB.cell
  have cW := bW.cell
  have cC := bC.cell
  have cD := bD.cell
  have cG := bG.cell
  -- the same
  go_wp2_with fail
  refine (eqValue_w Rv Rv _ _ _ QG.out.ats H0.out.any_).mono ?_
  rintro e w9 ⟨rfl, hb9⟩
  clear cA cB cW cC cD cG
  have B9 := B8b.trans (hb9.mono B8b.size)
  have sw9 := hb9.size
  replace bA := bA.call hb9
  replace bB := bB.call hb9
  replace bW := bW.call hb9
  replace bC := bC.call hb9
  replace bD := bD.call hb9
  replace bG := bG.call hb9
  replace H0 := Lib.hid (H0.out.below hb9)
  replace QX := Lib.hid (QX.out.below hb9 (by omega))
  replace QY := Lib.hid (QY.out.below hb9 (by omega))
  replace QN := Lib.hid (QN.out.below hb9 (by omega))
  replace QG := Lib.hid (QG.out.below hb9 (by omega))
  rw [show Va.same Rv Rv = true from Va.same_refl Rv]
  clear hb9 B8b
  have cA := bA.cell
  have cB := bB.cell
  have cW := bW.cell
  have cC := bC.cell
  have cD := bD.cell
  have cG := bG.cell
  have q9d : D.Ats w9.drew anyB X.ds [.int .i64 zp0, .int .i64 zp1, .string zp2, .slice zp3A zp3m zp3c] := QX.out.ats.drew
  go_upto_region 17 with fail
  go_cut [69] (fun s wx => s = .bool false ∧ Below w9.heap.size w9 wx)
  case first =>
    go_region_with (first
      | (go_at_call 8; ((with_reducible refine (toValue_c X _ _ (HX.out.below B9.drew) (by omega)).mono ?_); rintro e wv ⟨csv, rfl, hcsv, hbv⟩; have qv : D.Ats wv anyB X.ds csv := hcsv.weaken (fun _ _ => trivial); have fv := (Box.call (w := w9.drew) bC hbv).cell))
      | (go_at_call 12; ((with_reducible refine (eqValue_c X X _ _ _ (q9d.below hbv) qv).mono ?_); rintro e wq ⟨rfl, hbq⟩)))
    all_goals
      have fin := Lib.hid (show Below w9.heap.size w9 wq from ((Below.refl _ w9).drew.trans hbv).trans (hbq.mono hbv.size))
      have hrf := Va.same_refl X
      go_wp2_with fail
      go_meet
      exact ⟨by rw [hrf]; rfl, fin.out⟩
  case rest =>
  obtain ⟨rfl, hb10⟩ := hcut
  obtain ⟨w10, hw10⟩ : ∃ w10, w10 = wc := ⟨_, rfl⟩
  rw [← hw10] at hb10 ⊢
  clear hw10 q9d
  clear cA cB cW cC cD cG
  have B10 := B9.trans (hb10.mono B9.size)
  have sw10 := hb10.size
  replace bA := bA.call hb10
  replace bB := bB.call hb10
  replace bW := bW.call hb10
  replace bC := bC.call hb10
  replace bD := bD.call hb10
  replace bG := bG.call hb10
  replace H0 := Lib.hid (H0.out.below hb10)
  replace QX := Lib.hid (QX.out.below hb10 (by omega))
  replace QY := Lib.hid (QY.out.below hb10 (by omega))
  replace QN := Lib.hid (QN.out.below hb10 (by omega))
  replace QG := Lib.hid (QG.out.below hb10 (by omega))
  clear hb10 B9
  have cA := bA.cell
  have cB := bB.cell
  have cW := bW.cell
  have cC := bC.cell
  have cD := bD.cell
  have cG := bG.cell
  have q10d : D.Ats w10.drew anyB X'.ds [.int .i64 zq0, .string zq1, .slice zq2A zq2m zq2c, .slice zq3A zq3m zq3c] := QY.out.ats.drew
  go_upto_region 19 with fail
  go_cut [74] (fun s wx => s = .bool false ∧ Below w10.heap.size w10 wx)
  case first =>
    go_region_with (first
      | (go_at_call 9; ((with_reducible refine (toType_c X' _ _ (HX'.out.below B10.drew) (by omega)).mono ?_); rintro e wv ⟨csv, rfl, hcsv, hbv⟩; have qv : D.Ats wv anyB X'.ds csv := hcsv.weaken (fun _ _ => trivial); have fv := (Box.call (w := w10.drew) bD hbv).cell))
      | (go_at_call 13; ((with_reducible refine (eqType_c X' X' _ _ _ (q10d.below hbv) qv).mono ?_); rintro e wq ⟨rfl, hbq⟩)))
    all_goals
      have fin := Lib.hid (show Below w10.heap.size w10 wq from ((Below.refl _ w10).drew.trans hbv).trans (hbq.mono hbv.size))
      have hrf := Ty.same_refl X'
      go_wp2_with fail
      go_meet
      exact ⟨by rw [hrf]; rfl, fin.out⟩
  case rest =>
  obtain ⟨rfl, hb11⟩ := hcut
  obtain ⟨w11, hw11⟩ : ∃ w11, w11 = wc := ⟨_, rfl⟩
  rw [← hw11] at hb11 ⊢
  clear hw11 q10d
  clear cA cB cW cC cD cG
  have B11 := B10.trans (hb11.mono B10.size)
  have sw11 := hb11.size
  replace bA := bA.call hb11
  replace bB := bB.call hb11
  replace bW := bW.call hb11
  replace bC := bC.call hb11
  replace bD := bD.call hb11
  replace bG := bG.call hb11
  replace H0 := Lib.hid (H0.out.below hb11)
  replace QX := Lib.hid (QX.out.below hb11 (by omega))
  replace QY := Lib.hid (QY.out.below hb11 (by omega))
  replace QN := Lib.hid (QN.out.below hb11 (by omega))
  replace QG := Lib.hid (QG.out.below hb11 (by omega))
  clear hb11 B10
  have cA := bA.cell
  have cB := bB.cell
  have cW := bW.cell
  have cC := bC.cell
  have cD := bD.cell
  have cG := bG.cell
  -- the numbers are as they were
  go_wp2_with fail
  refine (toInt64S_w NS _ _ (HN.out.below B11) (by omega)).mono ?_
  rintro e w12 ⟨v12, rfl, hcs12, hb12⟩
  obtain ⟨A12, c12, rfl, -, -⟩ := rows_form intD_length hcs12
  clear cA cB cW cC cD cG
  have B12 := B11.trans (hb12.mono B11.size)
  have sw12 := hb12.size
  replace bA := bA.call hb12
  replace bB := bB.call hb12
  replace bW := bW.call hb12
  replace bC := bC.call hb12
  replace bD := bD.call hb12
  replace bG := bG.call hb12
  replace H0 := Lib.hid (H0.out.below hb12)
  replace QX := Lib.hid (QX.out.below hb12 (by omega))
  replace QY := Lib.hid (QY.out.below hb12 (by omega))
  replace QN := Lib.hid (QN.out.below hb12 (by omega))
  replace QG := Lib.hid (QG.out.below hb12 (by omega))
  have Q12 := Lib.hid (hcs12.weaken (S' := anyB) (fun _ _ => trivial))
  clear hb12 hcs12 B11
  have cA := bA.cell
  have cB := bB.cell
  have cW := bW.cell
  have cC := bC.cell
  have cD := bD.cell
  have cG := bG.cell
  go_wp2_with fail
  refine (eqInt64S_w NS NS _ _ _ QN.out.at_ Q12.out).mono ?_
  rintro e w13 ⟨rfl, hb13⟩
  clear cA cB cW cC cD cG
  have B13 := B12.trans (hb13.mono B12.size)
  have sw13 := hb13.size
  replace bA := bA.call hb13
  replace bB := bB.call hb13
  replace bW := bW.call hb13
  replace bC := bC.call hb13
  replace bD := bD.call hb13
  replace bG := bG.call hb13
  replace H0 := Lib.hid (H0.out.below hb13)
  replace QX := Lib.hid (QX.out.below hb13 (by omega))
  replace QY := Lib.hid (QY.out.below hb13 (by omega))
  replace QN := Lib.hid (QN.out.below hb13 (by omega))
  replace QG := Lib.hid (QG.out.below hb13 (by omega))
  rw [ints_refl]
  clear hb13 B12 Q12
  have cA := bA.cell
  have cB := bB.cell
  have cW := bW.cell
  have cC := bC.cell
  have cD := bD.cell
  have cG := bG.cell
  obtain ⟨-, lX, hX1, hX2, hX3⟩ := QX.out
  obtain ⟨-, lY, hY1, hY2, hY3⟩ := QY.out
  obtain ⟨-, lN, hN1, hN2, hN3⟩ := QN.out
  obtain ⟨-, lG, hG1, hG2, hG3⟩ := QG.out
  have KX := Lib.hid (And.intro hX1 (And.intro hX2 hX3))
  have KY := Lib.hid (And.intro hY1 (And.intro hY2 hY3))
  have KN := Lib.hid (And.intro hN1 (And.intro hN2 hN3))
  have KG := Lib.hid (And.intro hG1 (And.intro hG2 hG3))
  have QNv := Lib.hid QN.out
  clear hX1 hX2 hX3 hY1 hY2 hY3 hN1 hN2 hN3 hG1 hG2 hG3 QX QY QG QN
  have hcX : 1 + D.topsC X.ds ≤ 1000000000000 := by have := Va.topsC_le X; omega
  -- the value is marked
  go_wp2_with fail
  refine (markValue_w X _ lX 1 _ _ (by rfl) (by omega) hcX KX.out.1 KX.out.2.1).mono ?_
  rintro e w14 ⟨m14, hm14, rfl, sx, wr⟩
  have B14 := B13.trans (wr.below B13.size (fun b hb => by have := KX.out.2.2 b hb; have := HB3.out; omega))
  have sw14 := wr.size
  have nA : w.heap.size ∉ lX := fun hm => by have := KX.out.2.2 _ hm; have := HL3.out; omega
  have nB : w.heap.size + 1 ∉ lX := fun hm => by have := KX.out.2.2 _ hm; have := HL3.out; omega
  have nW : gW ∉ lX := fun hm => by have := KX.out.2.2 _ hm; have := HL3.out; omega
  have nC : w5.heap.size ∉ lX := fun hm => by have := KX.out.2.2 _ hm; have := HL3.out; omega
  have nD : w6.heap.size ∉ lX := fun hm => by have := KX.out.2.2 _ hm; have := HL3.out; omega
  have nG : w8.heap.size ∉ lX := fun hm => by have := KX.out.2.2 _ hm; have := HL3.out; omega
  replace bA : Box w14 (w.heap.size) _ _ := (wr.block _ bA.lt nA).trans bA
  replace bB : Box w14 (w.heap.size + 1) _ _ := (wr.block _ bB.lt nB).trans bB
  replace bW : Box w14 (gW) _ _ := (wr.block _ bW.lt nW).trans bW
  replace bC : Box w14 (w5.heap.size) _ _ := (wr.block _ bC.lt nC).trans bC
  replace bD : Box w14 (w6.heap.size) _ _ := (wr.block _ bD.lt nD).trans bD
  replace bG : Box w14 (w8.heap.size) _ _ := (wr.block _ bG.lt nG).trans bG
  have hkeep : ∀ b, b < w13.heap.size → b < w3.heap.size → w14.heap[b]? = w13.heap[b]? ∧ b < w3.heap.size ∧ b < w14.heap.size := fun b h1 h2 =>
    ⟨wr.block b h1 (fun hm => by have := KX.out.2.2 _ hm; omega), h2, by omega⟩
  replace H0 := Lib.hid (H0.out.keep (S' := fun b => b < w3.heap.size) hkeep _ _)
  replace KY := Lib.hid (And.intro (D.Seps.wr KY.out.1 wr (fun b hb hm => by have := KX.out.2.2 _ hm; have := KY.out.2.2 _ hb; omega)) KY.out.2)
  replace KN := Lib.hid (And.intro (D.Sep.wr KN.out.1 wr (fun b hb hm => by have := KX.out.2.2 _ hm; have := KN.out.2.2 _ hb; omega)) KN.out.2)
  replace KG := Lib.hid (And.intro (D.Seps.wr KG.out.1 wr (fun b hb hm => by have := KX.out.2.2 _ hm; have := KG.out.2.2 _ hb; omega)) KG.out.2)
  have HMm14 := Lib.hid hm14
  clear sx wr KX hkeep nA nB nW nC nD nG hm14 B13
  clear cA cB cW cC cD cG
  clear bC
  have hcY : m14 + D.topsC X'.ds ≤ 1000000000000 := by have := Ty.topsC_le X'; have := Va.topsC_le X; have := HMm14.out; omega
  have hm14 : 1 ≤ m14 := by have := HMm14.out; omega
  have cA := bA.cell
  have cB := bB.cell
  have cW := bW.cell
  have cD := bD.cell
  have cG := bG.cell
  -- the type is marked
  go_wp2_with fail
  refine (markType_w X' _ lY m14 _ _ (by rfl) hm14 hcY KY.out.1 KY.out.2.1).mono ?_
  rintro e w15 ⟨m15, hm15, rfl, sx, wr⟩
  have B15 := B14.trans (wr.below B14.size (fun b hb => by have := KY.out.2.2 b hb; have := HB3.out; omega))
  have sw15 := wr.size
  have nA : w.heap.size ∉ lY := fun hm => by have := KY.out.2.2 _ hm; have := HL3.out; omega
  have nB : w.heap.size + 1 ∉ lY := fun hm => by have := KY.out.2.2 _ hm; have := HL3.out; omega
  have nW : gW ∉ lY := fun hm => by have := KY.out.2.2 _ hm; have := HL3.out; omega
  have nD : w6.heap.size ∉ lY := fun hm => by have := KY.out.2.2 _ hm; have := HL3.out; omega
  have nG : w8.heap.size ∉ lY := fun hm => by have := KY.out.2.2 _ hm; have := HL3.out; omega
  replace bA : Box w15 (w.heap.size) _ _ := (wr.block _ bA.lt nA).trans bA
  replace bB : Box w15 (w.heap.size + 1) _ _ := (wr.block _ bB.lt nB).trans bB
  replace bW : Box w15 (gW) _ _ := (wr.block _ bW.lt nW).trans bW
  replace bD : Box w15 (w6.heap.size) _ _ := (wr.block _ bD.lt nD).trans bD
  replace bG : Box w15 (w8.heap.size) _ _ := (wr.block _ bG.lt nG).trans bG
  have hkeep : ∀ b, b < w14.heap.size → b < w3.heap.size → w15.heap[b]? = w14.heap[b]? ∧ b < w3.heap.size ∧ b < w15.heap.size := fun b h1 h2 =>
    ⟨wr.block b h1 (fun hm => by have := KY.out.2.2 _ hm; omega), h2, by omega⟩
  replace H0 := Lib.hid (H0.out.keep (S' := fun b => b < w3.heap.size) hkeep _ _)
  replace KN := Lib.hid (And.intro (D.Sep.wr KN.out.1 wr (fun b hb hm => by have := KY.out.2.2 _ hm; have := KN.out.2.2 _ hb; omega)) KN.out.2)
  replace KG := Lib.hid (And.intro (D.Seps.wr KG.out.1 wr (fun b hb hm => by have := KY.out.2.2 _ hm; have := KG.out.2.2 _ hb; omega)) KG.out.2)
  have HMm15 := Lib.hid hm15
  clear sx wr KY hkeep nA nB nW nD nG hm15 B14
  clear cA cB cW cD cG
  clear bD
  have hcN : m15 + D.count (rows intD 1 NS) ≤ 1000000000000 := by rw [rows_count, ints_counts]; have := Ty.topsC_le X'; have := Va.topsC_le X; have := HMm14.out; have := HMm15.out; omega
  have hm15 : 1 ≤ m15 := by have := HMm15.out; omega
  have cA := bA.cell
  have cB := bB.cell
  have cW := bW.cell
  have cG := bG.cell
  -- the numbers are marked
  go_wp2_with fail
  refine (markInt64S_w NS _ lN m15 _ _ (by rfl) hm15 hcN KN.out.1 KN.out.2.1).mono ?_
  rintro e w16 ⟨m16, hm16, rfl, sx, wr⟩
  have B16 := B15.trans (wr.below B15.size (fun b hb => by have := KN.out.2.2 b hb; have := HB3.out; omega))
  have sw16 := wr.size
  have nA : w.heap.size ∉ lN := fun hm => by have := KN.out.2.2 _ hm; have := HL3.out; omega
  have nB : w.heap.size + 1 ∉ lN := fun hm => by have := KN.out.2.2 _ hm; have := HL3.out; omega
  have nW : gW ∉ lN := fun hm => by have := KN.out.2.2 _ hm; have := HL3.out; omega
  have nG : w8.heap.size ∉ lN := fun hm => by have := KN.out.2.2 _ hm; have := HL3.out; omega
  replace bA : Box w16 (w.heap.size) _ _ := (wr.block _ bA.lt nA).trans bA
  replace bB : Box w16 (w.heap.size + 1) _ _ := (wr.block _ bB.lt nB).trans bB
  replace bW : Box w16 (gW) _ _ := (wr.block _ bW.lt nW).trans bW
  replace bG : Box w16 (w8.heap.size) _ _ := (wr.block _ bG.lt nG).trans bG
  have hkeep : ∀ b, b < w15.heap.size → b < w3.heap.size → w16.heap[b]? = w15.heap[b]? ∧ b < w3.heap.size ∧ b < w16.heap.size := fun b h1 h2 =>
    ⟨wr.block b h1 (fun hm => by have := KN.out.2.2 _ hm; omega), h2, by omega⟩
  replace H0 := Lib.hid (H0.out.keep (S' := fun b => b < w3.heap.size) hkeep _ _)
  replace KG := Lib.hid (And.intro (D.Seps.wr KG.out.1 wr (fun b hb hm => by have := KN.out.2.2 _ hm; have := KG.out.2.2 _ hb; omega)) KG.out.2)
  have HMm16 := Lib.hid hm16
  clear sx wr KN hkeep nA nB nW nG hm16 B15
  clear cA cB cW cG
  have hm0 : ¬ ((m16 : Int) < 0) := by omega
  have cA := bA.cell
  have cB := bB.cell
  have cW := bW.cell
  have cG := bG.cell
  -- the result reads as before
  go_wp2_with fail
  refine (eqValue_w Rv Rv _ _ _ (D.Seps.at_ _ _ _ (fun _ _ => trivial) KG.out.1) H0.out.any_).mono ?_
  rintro e w17 ⟨rfl, hb17⟩
  clear cA cB cW cG
  have B17 := B16.trans (hb17.mono B16.size)
  have sw17 := hb17.size
  replace bA := bA.call hb17
  replace bB := bB.call hb17
  replace bW := bW.call hb17
  replace bG := bG.call hb17
  replace H0 := Lib.hid (H0.out.below hb17)
  replace KG := Lib.hid (And.intro (D.Seps.below KG.out.1 hb17) KG.out.2)
  rw [show Va.same Rv Rv = true from Va.same_refl Rv]
  clear hb17 B16
  have cA := bA.cell
  have cB := bB.cell
  have cW := bW.cell
  have cG := bG.cell
  -- the result is marked
  go_wp2_with fail
  refine (markValue_w Rv _ lG 1 _ _ (by rfl) (by omega) HC.out KG.out.1 KG.out.2.1).mono ?_
  rintro e w18 ⟨m18, hm18, rfl, sx, wr⟩
  have B18 := B17.trans (wr.below B17.size (fun b hb => by have := KG.out.2.2 b hb; have := HB3.out; omega))
  have sw18 := wr.size
  have nA : w.heap.size ∉ lG := fun hm => by have := KG.out.2.2 _ hm; have := HL3.out; omega
  have nB : w.heap.size + 1 ∉ lG := fun hm => by have := KG.out.2.2 _ hm; have := HL3.out; omega
  have nW : gW ∉ lG := fun hm => by have := KG.out.2.2 _ hm; have := HL3.out; omega
  have nG : w8.heap.size ∉ lG := fun hm => by have := KG.out.2.2 _ hm; have := HL3.out; omega
  replace bA : Box w18 (w.heap.size) _ _ := (wr.block _ bA.lt nA).trans bA
  replace bB : Box w18 (w.heap.size + 1) _ _ := (wr.block _ bB.lt nB).trans bB
  replace bW : Box w18 (gW) _ _ := (wr.block _ bW.lt nW).trans bW
  replace bG : Box w18 (w8.heap.size) _ _ := (wr.block _ bG.lt nG).trans bG
  have hkeep : ∀ b, b < w17.heap.size → b < w3.heap.size → w18.heap[b]? = w17.heap[b]? ∧ b < w3.heap.size ∧ b < w18.heap.size := fun b h1 h2 =>
    ⟨wr.block b h1 (fun hm => by have := KG.out.2.2 _ hm; omega), h2, by omega⟩
  replace H0 := Lib.hid (H0.out.keep (S' := fun b => b < w3.heap.size) hkeep _ _)
  have MG := Lib.hid (show D.Ats w18 anyB (D.topsM 1 Rv.ds) [.int .i64 g0, .int .i64 g1, .string g2, .slice g3A g3m g3c] from D.Seps.at_ _ _ _ (fun _ _ => trivial) sx)
  have HMm18 := Lib.hid hm18
  clear sx wr KG hkeep nA nB nW nG hm18 B17
  clear cA cB cW cG
  have cA := bA.cell
  have cB := bB.cell
  have cW := bW.cell
  have cG := bG.cell
  -- the marks are found
  go_wp2_with fail
  refine (heldValue_w Rv _ 1 _ _ (by rfl) (by omega) HC.out MG.out).mono ?_
  rintro e w19 ⟨m19, hm19, rfl, hb19⟩
  obtain rfl : m19 = m18 := by have := HMm18.out; omega
  clear hm19
  have hm2 : ¬ ((m19 : Int) < 0) := by omega
  clear cA cB cW cG
  have B19 := B18.trans (hb19.mono B18.size)
  replace bA := bA.call hb19
  replace bB := bB.call hb19
  replace bW := bW.call hb19
  replace bG := bG.call hb19
  replace H0 := Lib.hid (H0.out.below hb19)
  replace MG := Lib.hid (MG.out.below hb19)
  clear hb19 B18
  have cA := bA.cell
  have cB := bB.cell
  have cW := bW.cell
  have cG := bG.cell
  -- once more
  go_upto_region 37 with fail
  go_cut [18, 19] (fun s s9 wx => ∃ (g9 : Nat) (h0 h1 : Int) (h2 : ByteArray) (h3A : Option Addr) (h3m h3c : Nat), s = .pointer (some ⟨g9, 0, none⟩) ∧ s9 = .int .i64 Rn ∧ D.Ats wx (fun b => b < wx.heap.size) Rv.ds [.int .i64 h0, .int .i64 h1, .string h2, .slice h3A h3m h3c] ∧ Box wx g9 34 [.int .i64 h0, .int .i64 h1, .string h2, .slice h3A h3m h3c] ∧ Below w19.heap.size w19 wx)
  case first =>
    have lA9 := bA.lt
    have lB9 := bB.lt
    have bA9 := bA
    have bB9 := bB
    have HK8 : ∀ W : World, Below w19.heap.size w19 W → W.cell? ⟨w.heap.size, 0, none⟩ = some (.int .i64 k0) ∧ W.cell? ⟨w.heap.size, 1, none⟩ = some (.int .i64 k1) ∧ W.cell? ⟨w.heap.size, 2, none⟩ = some (.string k2) ∧ W.cell? ⟨w.heap.size, 3, none⟩ = some (.slice k3A k3m k3c) ∧ W.cell? ⟨w.heap.size + 1, 0, none⟩ = some (.int .i64 n0) ∧ W.cell? ⟨w.heap.size + 1, 1, none⟩ = some (.string n1) ∧ W.cell? ⟨w.heap.size + 1, 2, none⟩ = some (.slice n2A n2m n2c) ∧ W.cell? ⟨w.heap.size + 1, 3, none⟩ = some (.slice n3A n3m n3c) := fun W h => ⟨(h.cell (p := ⟨w.heap.size, 0, none⟩) lA9).trans (bA9.cell 0), (h.cell (p := ⟨w.heap.size, 1, none⟩) lA9).trans (bA9.cell 1), (h.cell (p := ⟨w.heap.size, 2, none⟩) lA9).trans (bA9.cell 2), (h.cell (p := ⟨w.heap.size, 3, none⟩) lA9).trans (bA9.cell 3), (h.cell (p := ⟨w.heap.size + 1, 0, none⟩) lB9).trans (bB9.cell 0), (h.cell (p := ⟨w.heap.size + 1, 1, none⟩) lB9).trans (bB9.cell 1), (h.cell (p := ⟨w.heap.size + 1, 2, none⟩) lB9).trans (bB9.cell 2), (h.cell (p := ⟨w.heap.size + 1, 3, none⟩) lB9).trans (bB9.cell 3)⟩
    have HV9 := Lib.hid (fun W (h : Below w19.heap.size w19 W) => toValue_c X _ W (HX.out.below (B19.trans (h.mono B19.size))) (by omega))
    have HT9 := Lib.hid (fun W (h : Below w19.heap.size w19 W) => toType_c X' _ W (HX'.out.below (B19.trans (h.mono B19.size))) (by omega))
    have HN9 := Lib.hid (fun W (h : Below w19.heap.size w19 W) => toInt64S_c NS _ W (HN.out.below (B19.trans (h.mono B19.size))) (by omega))
    have HC9 := Lib.hid (fun W (h : Below w19.heap.size w19 W) => (fun cs cs' vN qV qT qN => impl_wh X X' NS Rv Rn HR.out cs cs' vN W (tabs_below HT.out (B19.trans (h.mono B19.size))) hnd hp2 hnl qV qT qN))
    have eC : Below w19.heap.size w19 w19.drew := (Below.refl _ w19).drew
    refine wp_region_held_drew (S := (fun W => W.cell? ⟨w.heap.size, 0, none⟩ = some (.int .i64 k0) ∧ W.cell? ⟨w.heap.size, 1, none⟩ = some (.int .i64 k1) ∧ W.cell? ⟨w.heap.size, 2, none⟩ = some (.string k2) ∧ W.cell? ⟨w.heap.size, 3, none⟩ = some (.slice k3A k3m k3c) ∧ W.cell? ⟨w.heap.size + 1, 0, none⟩ = some (.int .i64 n0) ∧ W.cell? ⟨w.heap.size + 1, 1, none⟩ = some (.string n1) ∧ W.cell? ⟨w.heap.size + 1, 2, none⟩ = some (.slice n2A n2m n2c) ∧ W.cell? ⟨w.heap.size + 1, 3, none⟩ = some (.slice n3A n3m n3c))) (by kernel_rfl) ?_ (fun hHeld => ?_)
    · (try dsimp only); (first | with_reducible assumption | (with_reducible exact HK8 _ eC))
    refine wpAnyH_take (i := 0) (v := ?_) (arr_getL rfl) (by kernel_rfl) (by kernel_rfl) (by kernel_rfl) (fun _ _ _ h => h) (Or.inl ⟨by rfl, ?_⟩) (by assumption) ?_
    rotate_left 1
    · (intro W hSw; (try dsimp only at hSw); go_simp; try with_reducible rfl)
    (try simp only [Act.put, List.setIfInBounds_toArray, List.set_cons_zero, List.set_cons_succ])
    refine wpAnyH_take (i := 2) (v := ?_) (arr_getL rfl) (by kernel_rfl) (by kernel_rfl) (by kernel_rfl) (fun _ _ _ h => h) (Or.inl ⟨by rfl, ?_⟩) (by assumption) ?_
    rotate_left 1
    · (intro W hSw; (try dsimp only at hSw); go_simp; try with_reducible rfl)
    (try simp only [Act.put, List.setIfInBounds_toArray, List.set_cons_zero, List.set_cons_succ])
    refine wpAnyH_take (i := 4) (v := ?_) (arr_getL rfl) (by kernel_rfl) (by kernel_rfl) (by kernel_rfl) (fun _ _ _ h => h) (Or.inl ⟨by rfl, ?_⟩) (by assumption) ?_
    rotate_left 1
    · (intro W hSw; (try dsimp only at hSw); go_simp; try with_reducible rfl)
    (try simp only [Act.put, List.setIfInBounds_toArray, List.set_cons_zero, List.set_cons_succ])
    refine wpAnyH_ready (rs := [1, 10]) (by kernel_rfl) (by simp) ?_
    refine AllReadyH.cons (arr_getL rfl) (fun K hK => ?_) ?_
    focus
     (go_simp; go_at_call 8; ((with_reducible refine (HV9.out _ eC).mono ?_); rintro e wV ⟨csV, rfl, hcs, hb⟩; replace eC := eC.trans (hb.mono eC.size); have qV : D.Ats wV anyB X.ds csV := hcs.weaken (fun _ _ => trivial); clear hb hcs))
     (first | refine hK.out _ _ ?_ (fun hHeld => ?_) | (go_wp2_with fail; refine hK.out _ _ ?_ (fun hHeld => ?_)))
     · (try dsimp only); (first | with_reducible assumption | (with_reducible exact HK8 _ eC))
     clear hK K
     (try simp only [Act.put, List.setIfInBounds_toArray, List.set_cons_zero, List.set_cons_succ])
     refine wpAnyH_ready (rs := [3, 10]) (by kernel_rfl) (by simp) ?_
     refine AllReadyH.cons (arr_getL rfl) (fun K hK => ?_) ?_
     focus
      (go_simp; go_at_call 9; ((with_reducible refine (HT9.out _ eC).mono ?_); rintro e wT ⟨csT, rfl, hcs, hb⟩; replace eC := eC.trans (hb.mono eC.size); replace qV := qV.below hb; have qT : D.Ats wT anyB X'.ds csT := hcs.weaken (fun _ _ => trivial); clear hb hcs))
      (first | refine hK.out _ _ ?_ (fun hHeld => ?_) | (go_wp2_with fail; refine hK.out _ _ ?_ (fun hHeld => ?_)))
      · (try dsimp only); (first | with_reducible assumption | (with_reducible exact HK8 _ eC))
      clear hK K
      (try simp only [Act.put, List.setIfInBounds_toArray, List.set_cons_zero, List.set_cons_succ])
      refine wpAnyH_ready (rs := [5, 10]) (by kernel_rfl) (by simp) ?_
      refine AllReadyH.cons (arr_getL rfl) (fun K hK => ?_) ?_
      focus
       (go_simp; go_at_call 10; ((with_reducible refine (HN9.out _ eC).mono ?_); rintro e wN ⟨vN, rfl, hcs, hb⟩; replace eC := eC.trans (hb.mono eC.size); replace qV := qV.below hb; replace qT := qT.below hb; have qN : D.At wN anyB (rows intD 1 NS) vN := hcs.weaken (fun _ _ => trivial); clear hb hcs))
       (first | refine hK.out _ _ ?_ (fun hHeld => ?_) | (go_wp2_with fail; refine hK.out _ _ ?_ (fun hHeld => ?_)))
       · (try dsimp only); (first | with_reducible assumption | (with_reducible exact HK8 _ eC))
       clear hK K
       (try simp only [Act.put, List.setIfInBounds_toArray, List.set_cons_zero, List.set_cons_succ])
       refine wpAnyH_ready (rs := [6, 10]) (by kernel_rfl) (by simp) ?_
       refine AllReadyH.cons (arr_getL rfl) (fun K hK => ?_) ?_
       focus
        (go_simp; go_at_call 11; ((with_reducible refine (HC9.out _ eC _ _ _ qV qT qN).mono ?_); rintro e wR ⟨csR, rfl, hsR, hb⟩; obtain ⟨r0, r1, r2, r3A, r3m, r3c, rfl⟩ := Va.form hsR.ats; replace eC := eC.trans (hb.mono eC.size)))
        (first | refine hK.out _ _ ?_ (fun hHeld => ?_) | (go_wp2_with fail; refine hK.out _ _ ?_ (fun hHeld => ?_)))
        · (try dsimp only); (first | with_reducible assumption | (with_reducible exact HK8 _ eC))
        clear hK K
        (try simp only [Act.put, List.setIfInBounds_toArray, List.set_cons_zero, List.set_cons_succ])
       rotate_left 1
       refine AllReadyH.cons (arr_getL rfl) (fun K hK => ?_) ?_
       focus
        (go_simp; have gZ : w19.heap.size ≤ wN.heap.size := eC.size; have bZ : Box (wN.alloc (.cells #[.int .i64 0, .int .i64 0, .string ⟨#[]⟩, .slice none 0 0] 34)) wN.heap.size 34 [.int .i64 0, .int .i64 0, .string ⟨#[]⟩, .slice none 0 0] := Box.new wN _ _; have aZ : Below wN.heap.size wN (wN.alloc (.cells #[.int .i64 0, .int .i64 0, .string ⟨#[]⟩, .slice none 0 0] 34)) := (Below.refl _ _).alloc (Nat.le_refl _) _; replace eC := eC.trans (aZ.mono eC.size); replace qV := qV.below aZ; replace qT := qT.below aZ; replace qN := qN.below aZ)
        (first | refine hK.out _ _ ?_ (fun hHeld => ?_) | (go_wp2_with fail; refine hK.out _ _ ?_ (fun hHeld => ?_)))
        · (try dsimp only); (first | with_reducible assumption | (with_reducible exact HK8 _ eC))
        clear hK K
        (try simp only [Act.put, List.setIfInBounds_toArray, List.set_cons_zero, List.set_cons_succ])
        refine wpAnyH_ready (rs := [6]) (by kernel_rfl) (by simp) ?_
        refine AllReadyH.cons (arr_getL rfl) (fun K hK => ?_) ?_
        focus
         (go_simp; go_at_call 11; ((with_reducible refine (HC9.out _ eC _ _ _ qV qT qN).mono ?_); rintro e wR ⟨csR, rfl, hsR, hb⟩; obtain ⟨r0, r1, r2, r3A, r3m, r3c, rfl⟩ := Va.form hsR.ats; replace eC := eC.trans (hb.mono eC.size); have hlo := bZ.lt; replace bZ := Box.call bZ hb; have kZ := bZ.cell; have fZ := bZ.frozen; have lZ := bZ.lt))
         (first | refine hK.out _ _ ?_ (fun hHeld => ?_) | (go_wp2_with fail; refine hK.out _ _ ?_ (fun hHeld => ?_)))
         · (try dsimp only); (first | with_reducible assumption | (with_reducible exact HK8 _ eC))
         clear hK K
         (try simp only [Act.put, List.setIfInBounds_toArray, List.set_cons_zero, List.set_cons_succ])
        rotate_left 1
        exact AllReadyH.nil
       rotate_left 1
       exact AllReadyH.nil
      rotate_left 2
      refine AllReadyH.cons (arr_getL rfl) (fun K hK => ?_) ?_
      focus
       (go_simp; have gZ : w19.heap.size ≤ wT.heap.size := eC.size; have bZ : Box (wT.alloc (.cells #[.int .i64 0, .int .i64 0, .string ⟨#[]⟩, .slice none 0 0] 34)) wT.heap.size 34 [.int .i64 0, .int .i64 0, .string ⟨#[]⟩, .slice none 0 0] := Box.new wT _ _; have aZ : Below wT.heap.size wT (wT.alloc (.cells #[.int .i64 0, .int .i64 0, .string ⟨#[]⟩, .slice none 0 0] 34)) := (Below.refl _ _).alloc (Nat.le_refl _) _; replace eC := eC.trans (aZ.mono eC.size); replace qV := qV.below aZ; replace qT := qT.below aZ)
       (first | refine hK.out _ _ ?_ (fun hHeld => ?_) | (go_wp2_with fail; refine hK.out _ _ ?_ (fun hHeld => ?_)))
       · (try dsimp only); (first | with_reducible assumption | (with_reducible exact HK8 _ eC))
       clear hK K
       (try simp only [Act.put, List.setIfInBounds_toArray, List.set_cons_zero, List.set_cons_succ])
       refine wpAnyH_ready (rs := [5]) (by kernel_rfl) (by simp) ?_
       refine AllReadyH.cons (arr_getL rfl) (fun K hK => ?_) ?_
       focus
        (go_simp; go_at_call 10; ((with_reducible refine (HN9.out _ eC).mono ?_); rintro e wN ⟨vN, rfl, hcs, hb⟩; replace eC := eC.trans (hb.mono eC.size); replace qV := qV.below hb; replace qT := qT.below hb; replace bZ := Box.call bZ hb; have qN : D.At wN anyB (rows intD 1 NS) vN := hcs.weaken (fun _ _ => trivial); clear hb hcs))
        (first | refine hK.out _ _ ?_ (fun hHeld => ?_) | (go_wp2_with fail; refine hK.out _ _ ?_ (fun hHeld => ?_)))
        · (try dsimp only); (first | with_reducible assumption | (with_reducible exact HK8 _ eC))
        clear hK K
        (try simp only [Act.put, List.setIfInBounds_toArray, List.set_cons_zero, List.set_cons_succ])
        refine wpAnyH_ready (rs := [6]) (by kernel_rfl) (by simp) ?_
        refine AllReadyH.cons (arr_getL rfl) (fun K hK => ?_) ?_
        focus
         (go_simp; go_at_call 11; ((with_reducible refine (HC9.out _ eC _ _ _ qV qT qN).mono ?_); rintro e wR ⟨csR, rfl, hsR, hb⟩; obtain ⟨r0, r1, r2, r3A, r3m, r3c, rfl⟩ := Va.form hsR.ats; replace eC := eC.trans (hb.mono eC.size); have hlo := bZ.lt; replace bZ := Box.call bZ hb; have kZ := bZ.cell; have fZ := bZ.frozen; have lZ := bZ.lt))
         (first | refine hK.out _ _ ?_ (fun hHeld => ?_) | (go_wp2_with fail; refine hK.out _ _ ?_ (fun hHeld => ?_)))
         · (try dsimp only); (first | with_reducible assumption | (with_reducible exact HK8 _ eC))
         clear hK K
         (try simp only [Act.put, List.setIfInBounds_toArray, List.set_cons_zero, List.set_cons_succ])
        rotate_left 1
        exact AllReadyH.nil
       rotate_left 1
       exact AllReadyH.nil
      rotate_left 1
      exact AllReadyH.nil
     rotate_left 3
     refine AllReadyH.cons (arr_getL rfl) (fun K hK => ?_) ?_
     focus
      (go_simp; have gZ : w19.heap.size ≤ wV.heap.size := eC.size; have bZ : Box (wV.alloc (.cells #[.int .i64 0, .int .i64 0, .string ⟨#[]⟩, .slice none 0 0] 34)) wV.heap.size 34 [.int .i64 0, .int .i64 0, .string ⟨#[]⟩, .slice none 0 0] := Box.new wV _ _; have aZ : Below wV.heap.size wV (wV.alloc (.cells #[.int .i64 0, .int .i64 0, .string ⟨#[]⟩, .slice none 0 0] 34)) := (Below.refl _ _).alloc (Nat.le_refl _) _; replace eC := eC.trans (aZ.mono eC.size); replace qV := qV.below aZ)
      (first | refine hK.out _ _ ?_ (fun hHeld => ?_) | (go_wp2_with fail; refine hK.out _ _ ?_ (fun hHeld => ?_)))
      · (try dsimp only); (first | with_reducible assumption | (with_reducible exact HK8 _ eC))
      clear hK K
      (try simp only [Act.put, List.setIfInBounds_toArray, List.set_cons_zero, List.set_cons_succ])
      refine wpAnyH_ready (rs := [3]) (by kernel_rfl) (by simp) ?_
      refine AllReadyH.cons (arr_getL rfl) (fun K hK => ?_) ?_
      focus
       (go_simp; go_at_call 9; ((with_reducible refine (HT9.out _ eC).mono ?_); rintro e wT ⟨csT, rfl, hcs, hb⟩; replace eC := eC.trans (hb.mono eC.size); replace qV := qV.below hb; replace bZ := Box.call bZ hb; have qT : D.Ats wT anyB X'.ds csT := hcs.weaken (fun _ _ => trivial); clear hb hcs))
       (first | refine hK.out _ _ ?_ (fun hHeld => ?_) | (go_wp2_with fail; refine hK.out _ _ ?_ (fun hHeld => ?_)))
       · (try dsimp only); (first | with_reducible assumption | (with_reducible exact HK8 _ eC))
       clear hK K
       (try simp only [Act.put, List.setIfInBounds_toArray, List.set_cons_zero, List.set_cons_succ])
       refine wpAnyH_ready (rs := [5]) (by kernel_rfl) (by simp) ?_
       refine AllReadyH.cons (arr_getL rfl) (fun K hK => ?_) ?_
       focus
        (go_simp; go_at_call 10; ((with_reducible refine (HN9.out _ eC).mono ?_); rintro e wN ⟨vN, rfl, hcs, hb⟩; replace eC := eC.trans (hb.mono eC.size); replace qV := qV.below hb; replace qT := qT.below hb; replace bZ := Box.call bZ hb; have qN : D.At wN anyB (rows intD 1 NS) vN := hcs.weaken (fun _ _ => trivial); clear hb hcs))
        (first | refine hK.out _ _ ?_ (fun hHeld => ?_) | (go_wp2_with fail; refine hK.out _ _ ?_ (fun hHeld => ?_)))
        · (try dsimp only); (first | with_reducible assumption | (with_reducible exact HK8 _ eC))
        clear hK K
        (try simp only [Act.put, List.setIfInBounds_toArray, List.set_cons_zero, List.set_cons_succ])
        refine wpAnyH_ready (rs := [6]) (by kernel_rfl) (by simp) ?_
        refine AllReadyH.cons (arr_getL rfl) (fun K hK => ?_) ?_
        focus
         (go_simp; go_at_call 11; ((with_reducible refine (HC9.out _ eC _ _ _ qV qT qN).mono ?_); rintro e wR ⟨csR, rfl, hsR, hb⟩; obtain ⟨r0, r1, r2, r3A, r3m, r3c, rfl⟩ := Va.form hsR.ats; replace eC := eC.trans (hb.mono eC.size); have hlo := bZ.lt; replace bZ := Box.call bZ hb; have kZ := bZ.cell; have fZ := bZ.frozen; have lZ := bZ.lt))
         (first | refine hK.out _ _ ?_ (fun hHeld => ?_) | (go_wp2_with fail; refine hK.out _ _ ?_ (fun hHeld => ?_)))
         · (try dsimp only); (first | with_reducible assumption | (with_reducible exact HK8 _ eC))
         clear hK K
         (try simp only [Act.put, List.setIfInBounds_toArray, List.set_cons_zero, List.set_cons_succ])
        rotate_left 1
        exact AllReadyH.nil
       rotate_left 1
       exact AllReadyH.nil
      rotate_left 1
      exact AllReadyH.nil
     rotate_left 1
     exact AllReadyH.nil
    rotate_left 4
    refine AllReadyH.cons (arr_getL rfl) (fun K hK => ?_) ?_
    focus
     (go_simp; replace eC : Below w19.heap.size w19 ((w19.alloc (.cells #[.int .i64 0, .int .i64 0, .string ⟨#[]⟩, .slice none 0 0] 34)).drew) := (((Below.refl _ w19).alloc (Nat.le_refl _) _).drew); have gZ : w19.heap.size ≤ w19.heap.size := Nat.le_refl _; have bZ : Box ((w19.alloc (.cells #[.int .i64 0, .int .i64 0, .string ⟨#[]⟩, .slice none 0 0] 34)).drew) w19.heap.size 34 [.int .i64 0, .int .i64 0, .string ⟨#[]⟩, .slice none 0 0] := Box.new w19 _ _)
     (first | refine hK.out _ _ ?_ (fun hHeld => ?_) | (go_wp2_with fail; refine hK.out _ _ ?_ (fun hHeld => ?_)))
     · (try dsimp only); (first | with_reducible assumption | (with_reducible exact HK8 _ eC))
     clear hK K
     (try simp only [Act.put, List.setIfInBounds_toArray, List.set_cons_zero, List.set_cons_succ])
     refine wpAnyH_ready (rs := [1]) (by kernel_rfl) (by simp) ?_
     refine AllReadyH.cons (arr_getL rfl) (fun K hK => ?_) ?_
     focus
      (go_simp; go_at_call 8; ((with_reducible refine (HV9.out _ eC).mono ?_); rintro e wV ⟨csV, rfl, hcs, hb⟩; replace eC := eC.trans (hb.mono eC.size); replace bZ := Box.call bZ hb; have qV : D.Ats wV anyB X.ds csV := hcs.weaken (fun _ _ => trivial); clear hb hcs))
      (first | refine hK.out _ _ ?_ (fun hHeld => ?_) | (go_wp2_with fail; refine hK.out _ _ ?_ (fun hHeld => ?_)))
      · (try dsimp only); (first | with_reducible assumption | (with_reducible exact HK8 _ eC))
      clear hK K
      (try simp only [Act.put, List.setIfInBounds_toArray, List.set_cons_zero, List.set_cons_succ])
      refine wpAnyH_ready (rs := [3]) (by kernel_rfl) (by simp) ?_
      refine AllReadyH.cons (arr_getL rfl) (fun K hK => ?_) ?_
      focus
       (go_simp; go_at_call 9; ((with_reducible refine (HT9.out _ eC).mono ?_); rintro e wT ⟨csT, rfl, hcs, hb⟩; replace eC := eC.trans (hb.mono eC.size); replace qV := qV.below hb; replace bZ := Box.call bZ hb; have qT : D.Ats wT anyB X'.ds csT := hcs.weaken (fun _ _ => trivial); clear hb hcs))
       (first | refine hK.out _ _ ?_ (fun hHeld => ?_) | (go_wp2_with fail; refine hK.out _ _ ?_ (fun hHeld => ?_)))
       · (try dsimp only); (first | with_reducible assumption | (with_reducible exact HK8 _ eC))
       clear hK K
       (try simp only [Act.put, List.setIfInBounds_toArray, List.set_cons_zero, List.set_cons_succ])
       refine wpAnyH_ready (rs := [5]) (by kernel_rfl) (by simp) ?_
       refine AllReadyH.cons (arr_getL rfl) (fun K hK => ?_) ?_
       focus
        (go_simp; go_at_call 10; ((with_reducible refine (HN9.out _ eC).mono ?_); rintro e wN ⟨vN, rfl, hcs, hb⟩; replace eC := eC.trans (hb.mono eC.size); replace qV := qV.below hb; replace qT := qT.below hb; replace bZ := Box.call bZ hb; have qN : D.At wN anyB (rows intD 1 NS) vN := hcs.weaken (fun _ _ => trivial); clear hb hcs))
        (first | refine hK.out _ _ ?_ (fun hHeld => ?_) | (go_wp2_with fail; refine hK.out _ _ ?_ (fun hHeld => ?_)))
        · (try dsimp only); (first | with_reducible assumption | (with_reducible exact HK8 _ eC))
        clear hK K
        (try simp only [Act.put, List.setIfInBounds_toArray, List.set_cons_zero, List.set_cons_succ])
        refine wpAnyH_ready (rs := [6]) (by kernel_rfl) (by simp) ?_
        refine AllReadyH.cons (arr_getL rfl) (fun K hK => ?_) ?_
        focus
         (go_simp; go_at_call 11; ((with_reducible refine (HC9.out _ eC _ _ _ qV qT qN).mono ?_); rintro e wR ⟨csR, rfl, hsR, hb⟩; obtain ⟨r0, r1, r2, r3A, r3m, r3c, rfl⟩ := Va.form hsR.ats; replace eC := eC.trans (hb.mono eC.size); have hlo := bZ.lt; replace bZ := Box.call bZ hb; have kZ := bZ.cell; have fZ := bZ.frozen; have lZ := bZ.lt))
         (first | refine hK.out _ _ ?_ (fun hHeld => ?_) | (go_wp2_with fail; refine hK.out _ _ ?_ (fun hHeld => ?_)))
         · (try dsimp only); (first | with_reducible assumption | (with_reducible exact HK8 _ eC))
         clear hK K
         (try simp only [Act.put, List.setIfInBounds_toArray, List.set_cons_zero, List.set_cons_succ])
        rotate_left 1
        exact AllReadyH.nil
       rotate_left 1
       exact AllReadyH.nil
      rotate_left 1
      exact AllReadyH.nil
     rotate_left 1
     exact AllReadyH.nil
    rotate_left 1
    exact AllReadyH.nil
    all_goals
      refine wpAnyH_take (i := 7) (v := ?_) (arr_getL rfl) (by kernel_rfl) (by kernel_rfl) (by kernel_rfl) (fun _ _ _ h => h) (Or.inl ⟨by rfl, ?_⟩) (by assumption) ?_
      rotate_left 1
      · (intro W hSw; (try dsimp only at hSw); go_simp; try with_reducible rfl)
      (try simp only [Act.put, List.setIfInBounds_toArray, List.set_cons_zero, List.set_cons_succ])
      refine wpAnyH_take (i := 8) (v := ?_) (arr_getL rfl) (by kernel_rfl) (by kernel_rfl) (by kernel_rfl) (fun _ _ _ h => h) (Or.inl ⟨by rfl, ?_⟩) (by assumption) ?_
      rotate_left 1
      · (intro W hSw; (try dsimp only at hSw); go_simp; try with_reducible rfl)
      (try simp only [Act.put, List.setIfInBounds_toArray, List.set_cons_zero, List.set_cons_succ])
      refine wpAnyH_take (i := 9) (v := ?_) (arr_getL rfl) (by kernel_rfl) (by kernel_rfl) (by kernel_rfl) (fun _ _ _ h => h) (Or.inl ⟨by rfl, ?_⟩) (by assumption) ?_
      rotate_left 1
      · (intro W hSw; (try dsimp only at hSw); go_simp; try with_reducible rfl)
      (try simp only [Act.put, List.setIfInBounds_toArray, List.set_cons_zero, List.set_cons_succ])
      first
      | (refine wpAnyH_ready (rs := [11]) (by kernel_rfl) (by simp) ?_
         refine AllReadyH.cons (arr_getL rfl) (fun K hK => ?_) AllReadyH.nil
         go_simp
         (first | refine hK.out _ _ ?_ (fun hHeld => ?_) | (go_wp2_with fail; refine hK.out _ _ ?_ (fun hHeld => ?_)))
         · (try dsimp only); (first | with_reducible assumption | (with_reducible exact HK8 _ ((((eC.setCell gZ _).setCell gZ _).setCell gZ _).setCell gZ _)))
         clear hK K
         (try simp only [Act.put, List.setIfInBounds_toArray, List.set_cons_zero, List.set_cons_succ])
         refine wpAnyH_take (i := 12) (v := ?_) (arr_getL rfl) (by kernel_rfl) (by kernel_rfl) (by kernel_rfl) (fun _ _ _ h => h) (Or.inl ⟨by rfl, ?_⟩) (by assumption) ?_
         rotate_left 1
         · (intro W hSw; (try dsimp only at hSw); go_simp; try with_reducible rfl)
         (try simp only [Act.put, List.setIfInBounds_toArray, List.set_cons_zero, List.set_cons_succ])
         refine wpAnyH_done (by kernel_rfl) ?_ _
         clear hHeld
         go_wp2_with fail
         go_meet
         exact ⟨_, r0, r1, r2, r3A, r3m, r3c, rfl, rfl, ((((hsR.set (p := ⟨_, 0, none⟩) (.inl hlo) _).set (p := ⟨_, 1, none⟩) (.inl hlo) _).set (p := ⟨_, 2, none⟩) (.inl hlo) _).set (p := ⟨_, 3, none⟩) (.inl hlo) _).lt_.weaken (fun b (hb : b < wR.heap.size) => by simpa [World.setCell] using hb), (((bZ.set 0 (.int .i64 r0)).set 1 (.int .i64 r1)).set 2 (.string r2)).set 3 (.slice r3A r3m r3c), (((eC.setCell gZ _).setCell gZ _).setCell gZ _).setCell gZ _⟩)
      | (refine wpAnyH_ready (rs := [10]) (by kernel_rfl) (by simp) ?_
         refine AllReadyH.cons (arr_getL rfl) (fun K hK => ?_) AllReadyH.nil
         go_simp
         (first | refine hK.out _ _ ?_ (fun hHeld => ?_) | (go_wp2_with fail; refine hK.out _ _ ?_ (fun hHeld => ?_)))
         · (try dsimp only); (first | with_reducible assumption | (with_reducible exact HK8 _ (eC.alloc eC.size _)))
         clear hK K
         (try simp only [Act.put, List.setIfInBounds_toArray, List.set_cons_zero, List.set_cons_succ])
         refine wpAnyH_ready (rs := [11]) (by kernel_rfl) (by simp) ?_
         refine AllReadyH.cons (arr_getL rfl) (fun K hK => ?_) AllReadyH.nil
         go_simp
         (first | refine hK.out _ _ ?_ (fun hHeld => ?_) | (go_wp2_with fail; refine hK.out _ _ ?_ (fun hHeld => ?_)))
         · (try dsimp only); (first | with_reducible assumption | (with_reducible exact HK8 _ (eC.alloc eC.size _)))
         clear hK K
         (try simp only [Act.put, List.setIfInBounds_toArray, List.set_cons_zero, List.set_cons_succ])
         refine wpAnyH_take (i := 12) (v := ?_) (arr_getL rfl) (by kernel_rfl) (by kernel_rfl) (by kernel_rfl) (fun _ _ _ h => h) (Or.inl ⟨by rfl, ?_⟩) (by assumption) ?_
         rotate_left 1
         · (intro W hSw; (try dsimp only at hSw); go_simp; try with_reducible rfl)
         (try simp only [Act.put, List.setIfInBounds_toArray, List.set_cons_zero, List.set_cons_succ])
         refine wpAnyH_done (by kernel_rfl) ?_ _
         clear hHeld
         go_wp2_with fail
         go_meet
         exact ⟨wR.heap.size, r0, r1, r2, r3A, r3m, r3c, rfl, rfl, (hsR.lt_.below ((Below.refl _ _).alloc (Nat.le_refl _) _)).weaken (fun b (hb : b < wR.heap.size) => by simp; omega), Box.new wR _ [.int .i64 r0, .int .i64 r1, .string r2, .slice r3A r3m r3c], eC.alloc eC.size _⟩)
  case rest =>
  obtain ⟨g9, h0, h1, h2, h3A, h3m, h3c, rfl, rfl, at9, bH, E20⟩ := hcut
  obtain ⟨w20, hw20⟩ : ∃ w20, w20 = wc := ⟨_, rfl⟩
  rw [← hw20] at at9 bH E20 ⊢
  clear hw20
  clear cA cB cW cG
  have B20 := B19.trans (E20.mono B19.size)
  replace bA := bA.call E20
  replace bB := bB.call E20
  replace bW := bW.call E20
  replace bG := bG.call E20
  replace H0 := Lib.hid (H0.out.below E20)
  replace MG := Lib.hid (MG.out.below E20)
  have G9 := Lib.hid at9
  clear at9 E20 B19
  have cA := bA.cell
  have cB := bB.cell
  have cW := bW.cell
  have cG := bG.cell
  have cH := bH.cell
  go_wp2_with fail
  refine (eqValue_w Rv Rv _ _ _ G9.out.any_ H0.out.any_).mono ?_
  rintro e w21 ⟨rfl, hb21⟩
  clear cA cB cW cG cH
  have B21 := B20.trans (hb21.mono B20.size)
  replace bA := bA.call hb21
  replace bB := bB.call hb21
  replace bW := bW.call hb21
  replace bG := bG.call hb21
  replace bH := bH.call hb21
  replace MG := Lib.hid (MG.out.below hb21)
  rw [show Va.same Rv Rv = true from Va.same_refl Rv]
  clear hb21 B20 G9 H0
  have cA := bA.cell
  have cB := bB.cell
  have cW := bW.cell
  have cG := bG.cell
  have cH := bH.cell
  go_wp2_with fail
  refine (heldValue_w Rv _ 1 _ _ (by rfl) (by omega) HC.out MG.out).mono ?_
  rintro e w22 ⟨m22, hm22, rfl, hb22⟩
  obtain rfl : m22 = m19 := by have := HMm18.out; omega
  clear hm22
  clear cA cB cW cG cH
  have B22 := B21.trans (hb22.mono B21.size)
  clear hb22 B21
  go_wp2
  go_ret
  exact ⟨rfl, B22⟩
end Go.Proofs.YtcpadaelgdmipaaGreatDoor
