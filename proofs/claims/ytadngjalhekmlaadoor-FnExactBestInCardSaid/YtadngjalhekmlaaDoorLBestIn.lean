/- BestIn: the law's walk. -/
import Derived.Test.YtadngjalhekmlaaDoorBestI
import Derived.Test.YtadngjalhekmlaaDoorOBase
import Derived.Lib.SmallJoins
import Derived.Deep.DeepCutAuto
namespace Go.Proofs.YtadngjalhekmlaaDoor
open Go.RowKit Go.Shelf Go.ChangeShapes Go.WideShapes

set_option maxRecDepth 20000 in
theorem list_arg {H : Type} {enc : TypeId × Value → H} {w : World} {base b0 : Nat} {v : Value} {d : DataW H} {p : List MemPlace} (hv : Value.okWide Tryd.prog w .any b0 35 v) (h : DataW.Trod enc Tryd.prog w base (fun _ => true) true 35 v d p) :
    ∃ l : List ByteArray, D.At w anyB (strs l) v := by
  obtain ⟨a, len, cap, rfl⟩ := okWide_slice Tryd.underlying35 hv
  obtain ⟨n, hn⟩ := h
  obtain ⟨v', l, e, hl⟩ := slice_of_trod (f := strD) (size := 1) Tryd.underlying35 cells_string (by omega) strD_length hn (fun k' cs' y _ hy => str_of_trod k' cs' y hy)
  simp [Value.cells] at e
  subst e
  exact ⟨l, hl⟩
theorem sames_refl (L : List ByteArray) : pairs sameS L L = true := by
  induction L with
  | nil => rfl
  | cons x r ih => simp only [pairs, ih, Bool.and_true]; simp [sameS]
set_option maxHeartbeats 2000000 in
set_option maxRecDepth 20000 in
theorem law_FnExactBestIn {H : Type} {enc : TypeId × Value → H} {b0 b1 : Nat} {w : World} (u : Value) (du : DataW H) (pu : List MemPlace) (hu : Value.okWide Tryd.prog w .any b0 35 u)
    (hU : DataW.Trod enc Tryd.prog w 0 (fun _ => true) true 35 u du pu) (v : Value) (d : DataW H) (p : List MemPlace) (hv : Value.okWide Tryd.prog w .any b1 25 v)
    (h : DataW.Trod enc Tryd.prog w 0 (fun _ => true) true 25 v d p) (ht : VerW w) :
    Calls Tryd.prog 8 #[u, v] w fun e w' => e = .returned (.bool true) ∧ Below w.heap.size w w' := by
  obtain ⟨c0, c1, y0, y1, m, rfl, rfl, rfl, hy0, hy1⟩ := Go.Joins.open_agg2 Tryd.underlying25 (by kernel_rfl) (by kernel_rfl : Tryd.prog.cellsOf 25 = 2) hv h
  obtain ⟨a, e0, rfl, wa⟩ := DataW.trod_int Tryd.underlying2 hy0
  obtain ⟨b, e1, rfl, wb⟩ := DataW.trod_int Tryd.underlying2 hy1
  simp at e0 e1
  subst e0 e1
  have ha := bounds_i64 wa
  have HT := Lib.hid ht
  obtain ⟨L, hL⟩ := list_arg hu hU
  have HL := Lib.hid hL
  obtain ⟨A, cap, rfl, hn, hc⟩ := rows_form strD_length hL
  clear hv h hy0 hy1 wa wb ht hu hU hL
  go_enter Tryd.func8, Tryd.ntmps8
  go_wp2_with fail
  refine (szStringS_w L _ _ _ (HL.out.below (by repeat (first | exact Below.refl _ _ | refine Below.alloc ?_ (by first | omega | (simp <;> omega)) _))) (by omega) (by omega)).mono ?_
  rintro e w1 ⟨rfl, hb1⟩
  obtain ⟨B1, bA⟩ := box1 (cA := [_, _]) hb1
  clear hb1
  by_cases hle : ((strs L).total : Int) ≤ 1048576
  · rw [left_yes hle]
    have hg : ¬ (1048576 - ((strs L).total : Int) < 0) := by omega
    have htot : (strs L).total ≤ 1048576 := by omega
    have hlen : L.length ≤ 1048576 := by have := htot; rw [strs, rows_total] at this; omega
    have hxs : ∀ x ∈ L, x.size ≤ 1048576 := fun x hx => by
      have h1 := totals_mem (f := strD) hx
      have h2 := htot
      rw [strs, rows_total] at h2
      have h3 : D.totals (strD x) = x.size := by simp [strD, D.totals, D.total]
      omega
    have HS := Lib.hid (fun w' v' (hv' : D.At w' anyB (strs L) v') => bestIn_s L v' a b ha w' hv')
    have HI := Lib.hid (fun w' bk cap hv' (hw' : VerW w') => bestIn_i L a b ha bk cap w' hv' hlen hxs hw')
    unfold retBest at HS HI
    obtain ⟨T, hT⟩ : ∃ T, bestT a b L = T := ⟨_, rfl⟩
    obtain ⟨I, hI⟩ : ∃ I, bestIs a b L = I := ⟨_, rfl⟩
    rw [hT, hI] at HS HI
    clear hT hI hxs
    have c := bA.cell
    go_upto_region 5 with fail
    go_cut [6, 7] (fun s o wx => s = .string T ∧ o = .bool I ∧ Below w.heap.size w wx ∧ Box wx w.heap.size 25 [.int .i64 a, .int .i64 b])
    case first =>
      go_region_with (first
        | (go_at_call 24; ((with_reducible refine (toStringS_w L _ _ (HL.out.below B1.drew) htot).mono ?_); rintro e w5 ⟨v5, rfl, h5, hb5⟩; have q5 : D.At w5 anyB (strs L) v5 := h5.weaken (fun _ _ => trivial); have c5 := (Box.call (w := w1.drew) bA hb5).cell))
        | (go_at_call 15; ((with_reducible refine (toRange_w a b _).mono ?_); rintro e w6 ⟨rfl, hb6⟩))
        | (go_at_call 23; ((with_reducible refine (HS.out _ _ (q5.below hb6)).mono ?_); rintro e w7 ⟨rfl, hb7⟩)))
      all_goals
        have fin := Lib.hid (show Below w.heap.size w w7 from ((B1.drew.trans (hb5.mono B1.size)).trans (hb6.mono (B1.drew.trans (hb5.mono B1.size)).size)).trans (hb7.mono ((B1.drew.trans (hb5.mono B1.size)).trans (hb6.mono (B1.drew.trans (hb5.mono B1.size)).size)).size))
        have fbox := Lib.hid (((Box.call (w := w1.drew) bA hb5).call hb6).call hb7)
        go_wp2_with fail
        go_meet
        exact ⟨rfl, rfl, fin.out, fbox.out⟩
    case rest =>
      obtain ⟨rfl, rfl, B7, b7⟩ := hcut
      obtain ⟨W7, hW7⟩ : ∃ W7, W7 = wc := ⟨_, rfl⟩
      rw [← hW7] at B7 b7 ⊢
      clear hW7 c bA B1
      go_wp2_with fail
      refine (toStringS_x L _ _ (HL.out.below B7) htot).mono ?_
      rintro e w8 ⟨⟨v8, rfl, h8, hb8⟩, gx, capx, e8⟩
      obtain rfl := Ending.returned.inj e8
      have B8 := B7.trans (hb8.mono B7.size)
      have b8 := b7.call hb8
      have Q8 := Lib.hid (h8.weaken (S' := anyB) (fun _ _ => trivial))
      clear h8 hb8 b7 B7 e8
      have c8 := b8.cell
      go_wp2_with fail
      refine (toRange_w a b _).mono ?_
      rintro e w9 ⟨rfl, hb9⟩
      have B9 := B8.trans (hb9.mono B8.size)
      have Q9 := Lib.hid (Q8.out.below hb9)
      clear hb9 b8 c8 B8
      go_wp2_with fail
      refine (HI.out _ _ _ Q9.out (HT.out.below B9)).mono ?_
      rintro e w10 ⟨rfl, hb10⟩
      have B10 := B9.trans (hb10.mono B9.size)
      have Q10 := Lib.hid (Q9.out.below hb10)
      clear hb10 B9
      have hne : (T.toList != T.toList) = false := by simp
      cases I
      all_goals
        go_wp2_with fail
        refine (toStringS_x L _ _ (HL.out.below B10) htot).mono ?_
        rintro e w11 ⟨⟨v11, rfl, h11, hb11⟩, gy, capy, e11⟩
        obtain rfl := Ending.returned.inj e11
        have B11 := B10.trans (hb11.mono B10.size)
        have Q11 := Lib.hid (And.intro (Q10.out.below hb11) (h11.weaken (S' := anyB) (fun _ _ => trivial)))
        clear h11 hb11 e11 B10
        go_wp2_with fail
        refine (eqStringS_w L L _ _ _ Q11.out.1 Q11.out.2).mono ?_
        rintro e w12 ⟨rfl, hb12⟩
        have B12 := B11.trans (hb12.mono B11.size)
        rw [sames_refl]
        clear hb12 B11
        go_wp2
        go_ret
        exact ⟨rfl, B12⟩
  · rw [left_no hle]
    go_wp2
    go_ret
    exact ⟨rfl, B1⟩
end Go.Proofs.YtadngjalhekmlaaDoor
