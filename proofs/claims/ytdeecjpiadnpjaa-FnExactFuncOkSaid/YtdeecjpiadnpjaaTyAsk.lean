/- HasBorrow, HasHandles, DeepOf, PartsOf: by the reference and by the program. -/
import Derived.Test.YtdeecjpiadnpjaaTyOkS
import Derived.Test.YtdeecjpiadnpjaaTyOkI
namespace Go.Proofs.Ytdeecjpiadnpjaa
open Go.RowKit Go.Shelf

theorem fits_ok {x : Ty} (h : tyOk x = true) : fitsAt 1 x = true := by
  unfold tyOk at h
  rw [Bool.and_eq_true, Bool.and_eq_true, decide_eq_true_eq, decide_eq_true_eq] at h
  exact decide_eq_true ⟨by omega, h.2.1⟩
theorem mem21' : memK [21] = fun q => inR 21 q 21 := by rw [hass21, mem21]
set_option maxHeartbeats 1000000 in
set_option maxRecDepth 20000 in
theorem askHasBorrow_s (x : Ty) (cs : List Value) (w : World) (hcs : D.Ats w anyB x.ds cs) :
    Calls Try.prog 19 #[.agg cs.toArray] w fun e w' => e = .returned (.bool (tyOk x && x.has fun q => inR 21 q 21)) ∧ Below w.heap.size w w' := by
  have HX := Lib.hid hcs
  obtain ⟨k, n, A0, m0, c0, A0', m0', c0', rfl⟩ := Ty.form hcs
  clear hcs
  go_enter Try.func19, Try.ntmps19
  go_wp2_with fail
  refine (l03Ok_s x _ _ (HX.out.below ((Below.refl _ _).alloc (Nat.le_refl _) _))).mono ?_
  rintro e w1 ⟨rfl, hb1⟩
  obtain ⟨B1, bA⟩ := box1 (cA := [_, _, _, _]) hb1
  clear hb1
  have c := bA.cell
  cases h1 : tyOk x
  · have E1 := Lib.hid h1
    clear c
    go_wp2
    go_ret
    exact ⟨ret_eq (by first | rfl | (rw [E1.out]; rfl)), B1⟩
  · have E1 := Lib.hid h1
    go_wp2_with fail
    refine (l03Has_s 21 21 x _ _ (HX.out.below B1)).mono ?_
    rintro e w2 ⟨rfl, hb2⟩
    have B2 := B1.trans (hb2.mono B1.size)
    clear c
    go_wp2
    go_ret
    exact ⟨ret_eq (by first | rfl | (rw [E1.out]; rfl)), B2⟩
set_option maxHeartbeats 1000000 in
set_option maxRecDepth 20000 in
theorem askHasBorrow_i (x : Ty) (cs : List Value) (w : World) (hcs : D.Ats w anyB x.ds cs) (hp : x.parts ≤ 2000000) :
    Calls Try.prog 20 #[.agg cs.toArray] w fun e w' => e = .returned (.bool (tyOk x && x.has fun q => inR 21 q 21)) ∧ Below w.heap.size w w' := by
  have HX := Lib.hid hcs
  obtain ⟨k, n, A0, m0, c0, A0', m0', c0', rfl⟩ := Ty.form hcs
  clear hcs
  go_enter Try.func20, Try.ntmps20
  go_wp2_with fail
  refine (typeOk_i x _ _ (HX.out.below ((Below.refl _ _).alloc (Nat.le_refl _) _)) hp).mono ?_
  rintro e w1 ⟨rfl, hb1⟩
  obtain ⟨B1, bA⟩ := box1 (cA := [_, _, _, _]) hb1
  clear hb1
  have c := bA.cell
  cases h1 : tyOk x
  · have E1 := Lib.hid h1
    clear c
    go_wp2
    go_ret
    exact ⟨ret_eq (by first | rfl | (rw [E1.out]; rfl)), B1⟩
  · have E1 := Lib.hid h1
    have lA := bA.lt
    go_wp2_with fail
    refine (hasKind_i [21] x _ _ _ _ (kinds1 _ 21 (by omega) _) (HX.out.below (B1.alloc B1.size _))).mono ?_
    rintro e w2 ⟨rfl, hb2⟩
    have B2 := (B1.alloc B1.size _).trans (hb2.mono (Nat.le_trans B1.size (by simp)))
    rw [mem21']
    clear c hb2
    go_wp2
    go_ret
    exact ⟨ret_eq (by first | rfl | (rw [E1.out]; rfl)), B2⟩
set_option maxHeartbeats 1000000 in
set_option maxRecDepth 20000 in
theorem askHasHandles_s (x : Ty) (cs : List Value) (w : World) (hcs : D.Ats w anyB x.ds cs) :
    Calls Try.prog 21 #[.agg cs.toArray] w fun e w' => e = .returned (.bool (tyOk x && x.has fun q => inR 20 q 21)) ∧ Below w.heap.size w w' := by
  have HX := Lib.hid hcs
  obtain ⟨k, n, A0, m0, c0, A0', m0', c0', rfl⟩ := Ty.form hcs
  clear hcs
  go_enter Try.func21, Try.ntmps21
  go_wp2_with fail
  refine (l03Ok_s x _ _ (HX.out.below ((Below.refl _ _).alloc (Nat.le_refl _) _))).mono ?_
  rintro e w1 ⟨rfl, hb1⟩
  obtain ⟨B1, bA⟩ := box1 (cA := [_, _, _, _]) hb1
  clear hb1
  have c := bA.cell
  cases h1 : tyOk x
  · have E1 := Lib.hid h1
    clear c
    go_wp2
    go_ret
    exact ⟨ret_eq (by first | rfl | (rw [E1.out]; rfl)), B1⟩
  · have E1 := Lib.hid h1
    go_wp2_with fail
    refine (l03Has_s 20 21 x _ _ (HX.out.below B1)).mono ?_
    rintro e w2 ⟨rfl, hb2⟩
    have B2 := B1.trans (hb2.mono B1.size)
    clear c
    go_wp2
    go_ret
    exact ⟨ret_eq (by first | rfl | (rw [E1.out]; rfl)), B2⟩
set_option maxHeartbeats 1000000 in
set_option maxRecDepth 20000 in
theorem askHasHandles_i (x : Ty) (cs : List Value) (w : World) (hcs : D.Ats w anyB x.ds cs) (hp : x.parts ≤ 2000000) :
    Calls Try.prog 22 #[.agg cs.toArray] w fun e w' => e = .returned (.bool (tyOk x && x.has fun q => inR 20 q 21)) ∧ Below w.heap.size w w' := by
  have HX := Lib.hid hcs
  obtain ⟨k, n, A0, m0, c0, A0', m0', c0', rfl⟩ := Ty.form hcs
  clear hcs
  go_enter Try.func22, Try.ntmps22
  go_wp2_with fail
  refine (typeOk_i x _ _ (HX.out.below ((Below.refl _ _).alloc (Nat.le_refl _) _)) hp).mono ?_
  rintro e w1 ⟨rfl, hb1⟩
  obtain ⟨B1, bA⟩ := box1 (cA := [_, _, _, _]) hb1
  clear hb1
  have c := bA.cell
  cases h1 : tyOk x
  · have E1 := Lib.hid h1
    clear c
    go_wp2
    go_ret
    exact ⟨ret_eq (by first | rfl | (rw [E1.out]; rfl)), B1⟩
  · have E1 := Lib.hid h1
    have lA := bA.lt
    go_wp2_with fail
    refine (hasKind_i [20, 21] x _ _ _ _ (kinds2 _ 20 21 (by omega) (by omega) _) (HX.out.below (B1.alloc B1.size _))).mono ?_
    rintro e w2 ⟨rfl, hb2⟩
    have B2 := (B1.alloc B1.size _).trans (hb2.mono (Nat.le_trans B1.size (by simp)))
    rw [mem2021]
    clear c hb2
    go_wp2
    go_ret
    exact ⟨ret_eq (by first | rfl | (rw [E1.out]; rfl)), B2⟩
set_option maxHeartbeats 1000000 in
set_option maxRecDepth 20000 in
theorem askDeepOf_s (x : Ty) (r : Int) (cs : List Value) (w : World) (hr : (if tyOk x = true then ((x.deep : Int) : Int) else 0) = r) (hcs : D.Ats w anyB x.ds cs) :
    Calls Try.prog 23 #[.agg cs.toArray] w fun e w' => e = .returned (.int .i64 r) ∧ Below w.heap.size w w' := by
  have HX := Lib.hid hcs
  obtain ⟨k, n, A0, m0, c0, A0', m0', c0', rfl⟩ := Ty.form hcs
  clear hcs
  go_enter Try.func23, Try.ntmps23
  go_wp2_with fail
  refine (l03Ok_s x _ _ (HX.out.below ((Below.refl _ _).alloc (Nat.le_refl _) _))).mono ?_
  rintro e w1 ⟨rfl, hb1⟩
  obtain ⟨B1, bA⟩ := box1 (cA := [_, _, _, _]) hb1
  clear hb1
  have c := bA.cell
  cases h1 : tyOk x
  · have E1 := Lib.hid (show r = 0 by rw [← hr, h1]; rfl)
    clear c h1 hr
    go_wp2
    go_ret
    exact ⟨ret_eq (by rw [E1.out]; rfl), B1⟩
  · have E1 := Lib.hid (show r = (x.deep : Int) by rw [← hr, h1]; rfl)
    clear hr
    have E2 := Lib.hid (size_fits (fits_ok h1))
    clear h1
    go_wp2_with fail
    refine (l03Size_s 4 x _ 1 _ _ (by rfl) (by omega) (HX.out.below B1)).mono ?_
    rintro e w2 ⟨rfl, hb2⟩
    have B2 := B1.trans (hb2.mono B1.size)
    rw [E2.out.1, E2.out.2.1]
    clear c hb2
    go_wp2
    go_ret
    exact ⟨ret_eq (by rw [E1.out]; rfl), B2⟩
set_option maxHeartbeats 1000000 in
set_option maxRecDepth 20000 in
theorem askDeepOf_i (x : Ty) (r : Int) (cs : List Value) (w : World) (hr : (if tyOk x = true then ((x.deep : Int) : Int) else 0) = r) (hcs : D.Ats w anyB x.ds cs) (hp : x.parts ≤ 2000000) :
    Calls Try.prog 24 #[.agg cs.toArray] w fun e w' => e = .returned (.int .i64 r) ∧ Below w.heap.size w w' := by
  have HX := Lib.hid hcs
  obtain ⟨k, n, A0, m0, c0, A0', m0', c0', rfl⟩ := Ty.form hcs
  clear hcs
  go_enter Try.func24, Try.ntmps24
  go_wp2_with fail
  refine (typeOk_i x _ _ (HX.out.below ((Below.refl _ _).alloc (Nat.le_refl _) _)) hp).mono ?_
  rintro e w1 ⟨rfl, hb1⟩
  obtain ⟨B1, bA⟩ := box1 (cA := [_, _, _, _]) hb1
  clear hb1
  have c := bA.cell
  cases h1 : tyOk x
  · have E1 := Lib.hid (show r = 0 by rw [← hr, h1]; rfl)
    clear c h1 hr
    go_wp2
    go_ret
    exact ⟨ret_eq (by rw [E1.out]; rfl), B1⟩
  · have E1 := Lib.hid (show r = (x.deep : Int) by rw [← hr, h1]; rfl)
    clear hr
    have E2 := Lib.hid (size_fits (fits_ok h1))
    clear h1
    go_wp2_with fail
    refine (deep_i 4 x _ 4 _ rfl (Nat.le_refl _) (HX.out.below B1)).mono ?_
    rintro e w2 ⟨rfl, hb2⟩
    have B2 := B1.trans (hb2.mono B1.size)
    clear c hb2
    go_wp2
    go_ret
    exact ⟨ret_eq (by first | (rw [E1.out]; rfl) | (rw [E1.out, show min x.deep (4 + 1) = x.deep by have := E2.out.2.2.1; omega]; rfl)), B2⟩
set_option maxHeartbeats 1000000 in
set_option maxRecDepth 20000 in
theorem askPartsOf_s (x : Ty) (r : Int) (cs : List Value) (w : World) (hr : (if tyOk x = true then ((x.parts : Int) : Int) else 0) = r) (hcs : D.Ats w anyB x.ds cs) :
    Calls Try.prog 25 #[.agg cs.toArray] w fun e w' => e = .returned (.int .i64 r) ∧ Below w.heap.size w w' := by
  have HX := Lib.hid hcs
  obtain ⟨k, n, A0, m0, c0, A0', m0', c0', rfl⟩ := Ty.form hcs
  clear hcs
  go_enter Try.func25, Try.ntmps25
  go_wp2_with fail
  refine (l03Ok_s x _ _ (HX.out.below ((Below.refl _ _).alloc (Nat.le_refl _) _))).mono ?_
  rintro e w1 ⟨rfl, hb1⟩
  obtain ⟨B1, bA⟩ := box1 (cA := [_, _, _, _]) hb1
  clear hb1
  have c := bA.cell
  cases h1 : tyOk x
  · have E1 := Lib.hid (show r = 0 by rw [← hr, h1]; rfl)
    clear c h1 hr
    go_wp2
    go_ret
    exact ⟨ret_eq (by rw [E1.out]; rfl), B1⟩
  · have E1 := Lib.hid (show r = (x.parts : Int) by rw [← hr, h1]; rfl)
    clear hr
    have E2 := Lib.hid (size_fits (fits_ok h1))
    clear h1
    go_wp2_with fail
    refine (l03Size_s 4 x _ 1 _ _ (by rfl) (by omega) (HX.out.below B1)).mono ?_
    rintro e w2 ⟨rfl, hb2⟩
    have B2 := B1.trans (hb2.mono B1.size)
    rw [E2.out.1, E2.out.2.1]
    clear c hb2
    go_wp2
    go_ret
    exact ⟨ret_eq (by rw [E1.out]; rfl), B2⟩
set_option maxHeartbeats 1000000 in
set_option maxRecDepth 20000 in
theorem askPartsOf_i (x : Ty) (r : Int) (cs : List Value) (w : World) (hr : (if tyOk x = true then ((x.parts : Int) : Int) else 0) = r) (hcs : D.Ats w anyB x.ds cs) (hp : x.parts ≤ 2000000) :
    Calls Try.prog 26 #[.agg cs.toArray] w fun e w' => e = .returned (.int .i64 r) ∧ Below w.heap.size w w' := by
  have HX := Lib.hid hcs
  obtain ⟨k, n, A0, m0, c0, A0', m0', c0', rfl⟩ := Ty.form hcs
  clear hcs
  go_enter Try.func26, Try.ntmps26
  go_wp2_with fail
  refine (typeOk_i x _ _ (HX.out.below ((Below.refl _ _).alloc (Nat.le_refl _) _)) hp).mono ?_
  rintro e w1 ⟨rfl, hb1⟩
  obtain ⟨B1, bA⟩ := box1 (cA := [_, _, _, _]) hb1
  clear hb1
  have c := bA.cell
  cases h1 : tyOk x
  · have E1 := Lib.hid (show r = 0 by rw [← hr, h1]; rfl)
    clear c h1 hr
    go_wp2
    go_ret
    exact ⟨ret_eq (by rw [E1.out]; rfl), B1⟩
  · have E1 := Lib.hid (show r = (x.parts : Int) by rw [← hr, h1]; rfl)
    clear hr
    have E2 := Lib.hid (size_fits (fits_ok h1))
    clear h1
    go_wp2_with fail
    refine (parts_i x _ _ (HX.out.below B1) hp).mono ?_
    rintro e w2 ⟨rfl, hb2⟩
    have B2 := B1.trans (hb2.mono B1.size)
    clear c hb2
    go_wp2
    go_ret
    exact ⟨ret_eq (by first | (rw [E1.out]; rfl) | (rw [E1.out, show min x.deep (4 + 1) = x.deep by have := E2.out.2.2.1; omega]; rfl)), B2⟩
end Go.Proofs.Ytdeecjpiadnpjaa
