/- PathText: what a path's parts say, by the reference and by the program. -/
import Derived.Test.YtadngjalhekmlaaDoorVs
import Derived.Test.YtadngjalhekmlaaDoorNameOk
import Derived.Test.YtadngjalhekmlaaDoorData
namespace Go.Proofs.YtadngjalhekmlaaDoor
open Go.RowKit Go.Shelf

/-- No letter. -/
def nilT (s : ByteArray) : Bool := s.toList == []
theorem nilT_eq {s : ByteArray} (h : nilT s = true) : s = ⟨#[]⟩ := by
  unfold nilT at h
  rw [ByteArray.toList_eq] at h
  exact ByteArray.ext (Array.ext' (by simpa using h))
theorem nilT_bne (s : ByteArray) : (s.toList != []) = !nilT s := rfl
theorem nameOk_nil {s : ByteArray} (h : nilT s = true) : nameOk s = false := by
  rw [nilT_eq h]
  rfl
/-- A path that can be read. -/
def pathOk (p n v : ByteArray) : Bool := nameOk n && ((nilT p && nilT v) || nameOk p) && (nilT v || numIs v)
/-- The text of such a path. -/
def pathT (p n v : ByteArray) : ByteArray := if nilT p = true then n else if nilT v = true then p ++ ⟨#[47]⟩ ++ n else p ++ ⟨#[47]⟩ ++ n ++ (⟨#[64]⟩ ++ v)
def pathOr (p n v : ByteArray) : ByteArray := if pathOk p n v = true then pathT p n v else ⟨#[]⟩
theorem nameOk_s (s : ByteArray) (hs : s.size ≤ maxLen) (w : World) : Calls Tryd.prog 55 #[.string s] w fun e w' => e = .returned (.bool (nameOk s)) ∧ Below w.heap.size w w' := by
  go_enter Tryd.func55, Tryd.ntmps55
  go_wp2_with (go_at_call 60; refine (l03Name_s s hs _).mono ?_; rintro e w1 ⟨rfl, rfl⟩)
  go_ret
  exact ⟨rfl, Below.refl _ _⟩
set_option maxHeartbeats 1000000 in
set_option maxRecDepth 20000 in
theorem pathOk_s (p n v : ByteArray) (hp : p.size ≤ 1048576) (hn : n.size ≤ 1048576) (hv : v.size ≤ 1048576) (w : World) : Calls Tryd.prog 45 #[.agg #[.string p, .string n, .string v]] w fun e w' => e = .returned (.bool (pathOk p n v)) ∧ Below w.heap.size w w' := by
  have HN := Lib.hid (fun w => nameOk_s n (by unfold maxLen; omega) w)
  have HP := Lib.hid (fun w => nameOk_s p (by unfold maxLen; omega) w)
  have HV := Lib.hid (fun w => versionOk_s v (by omega) w)
  have bp := nilT_bne p
  have bv := nilT_bne v
  cases nn : nameOk n
  · skip
    have HE := Lib.hid (show pathOk p n v = false by unfold pathOk; rw [nn]; simp)
    rw [nn] at HN
    clear bp
    clear bv
    clear nn
    go_enter Tryd.func45, Tryd.ntmps45
    go_wp2_with fail
    refine (HN.out _).mono ?_
    rintro e w1 ⟨rfl, hb1⟩
    obtain ⟨B1, bA⟩ := box1 (cA := [_, _, _]) hb1
    have c := bA.cell
    clear hb1
    go_wp2
    exact bodyPost_ret (v := .bool false) (by simp [results, Tryd.results45, go_sem]) rfl ⟨by rw [HE.out], B1⟩
  · cases pe : nilT p
    · cases np : nameOk p
      · skip
        have HE := Lib.hid (show pathOk p n v = false by unfold pathOk; rw [nn, pe, np]; simp)
        rw [nn] at HN
        rw [np] at HP
        rw [pe] at bp
        clear bv
        have ep : (p.toList == []) = _ := pe
        clear nn pe np
        go_enter Tryd.func45, Tryd.ntmps45
        go_wp2_with fail
        refine (HN.out _).mono ?_
        rintro e w1 ⟨rfl, hb1⟩
        obtain ⟨B1, bA⟩ := box1 (cA := [_, _, _]) hb1
        have c := bA.cell
        clear hb1
        go_wp2_with fail
        refine (HP.out _).mono ?_
        rintro e w2 ⟨rfl, hb2⟩
        replace B1 := B1.trans (hb2.mono B1.size)
        replace bA := bA.call hb2
        clear c hb2
        have c := bA.cell
        go_wp2
        exact bodyPost_ret (v := .bool false) (by simp [results, Tryd.results45, go_sem]) rfl ⟨by rw [HE.out], B1⟩
      · cases ve : nilT v
        · skip
          have HE := Lib.hid (show pathOk p n v = numIs v by unfold pathOk; rw [nn, pe, np, ve]; simp)
          rw [nn] at HN
          rw [np] at HP
          rw [pe] at bp
          rw [ve] at bv
          have ep : (p.toList == []) = _ := pe
          have ev : (v.toList == []) = _ := ve
          clear nn pe np ve
          go_enter Tryd.func45, Tryd.ntmps45
          go_wp2_with fail
          refine (HN.out _).mono ?_
          rintro e w1 ⟨rfl, hb1⟩
          obtain ⟨B1, bA⟩ := box1 (cA := [_, _, _]) hb1
          have c := bA.cell
          clear hb1
          go_wp2_with fail
          refine (HP.out _).mono ?_
          rintro e w2 ⟨rfl, hb2⟩
          replace B1 := B1.trans (hb2.mono B1.size)
          replace bA := bA.call hb2
          clear c hb2
          have c := bA.cell
          go_wp2_with fail
          refine (HV.out _).mono ?_
          rintro e w3 ⟨rfl, hb3⟩
          replace B1 := B1.trans (hb3.mono B1.size)
          replace bA := bA.call hb3
          clear c hb3
          have c := bA.cell
          go_wp2
          exact bodyPost_ret (v := .bool (numIs v)) (by simp [results, Tryd.results45, go_sem]) rfl ⟨by rw [HE.out], B1⟩
        · skip
          have HE := Lib.hid (show pathOk p n v = true by unfold pathOk; rw [nn, pe, np, ve]; simp)
          rw [nn] at HN
          rw [np] at HP
          rw [pe] at bp
          rw [ve] at bv
          have ep : (p.toList == []) = _ := pe
          have ev : (v.toList == []) = _ := ve
          clear nn pe np ve
          go_enter Tryd.func45, Tryd.ntmps45
          go_wp2_with fail
          refine (HN.out _).mono ?_
          rintro e w1 ⟨rfl, hb1⟩
          obtain ⟨B1, bA⟩ := box1 (cA := [_, _, _]) hb1
          have c := bA.cell
          clear hb1
          go_wp2_with fail
          refine (HP.out _).mono ?_
          rintro e w2 ⟨rfl, hb2⟩
          replace B1 := B1.trans (hb2.mono B1.size)
          replace bA := bA.call hb2
          clear c hb2
          have c := bA.cell
          go_wp2
          exact bodyPost_ret (v := .bool true) (by simp [results, Tryd.results45, go_sem]) rfl ⟨by rw [HE.out], B1⟩
    · have np := nameOk_nil pe
      cases ve : nilT v
      · skip
        have HE := Lib.hid (show pathOk p n v = false by unfold pathOk; rw [nn, pe, np, ve]; simp)
        rw [nn] at HN
        rw [np] at HP
        rw [pe] at bp
        rw [ve] at bv
        have ep : (p.toList == []) = _ := pe
        have ev : (v.toList == []) = _ := ve
        clear nn pe np ve
        go_enter Tryd.func45, Tryd.ntmps45
        go_wp2_with fail
        refine (HN.out _).mono ?_
        rintro e w1 ⟨rfl, hb1⟩
        obtain ⟨B1, bA⟩ := box1 (cA := [_, _, _]) hb1
        have c := bA.cell
        clear hb1
        go_wp2
        exact bodyPost_ret (v := .bool false) (by simp [results, Tryd.results45, go_sem]) rfl ⟨by rw [HE.out], B1⟩
      · skip
        have HE := Lib.hid (show pathOk p n v = true by unfold pathOk; rw [nn, pe, np, ve]; simp)
        rw [nn] at HN
        rw [np] at HP
        rw [pe] at bp
        rw [ve] at bv
        have ep : (p.toList == []) = _ := pe
        have ev : (v.toList == []) = _ := ve
        clear nn pe np ve
        go_enter Tryd.func45, Tryd.ntmps45
        go_wp2_with fail
        refine (HN.out _).mono ?_
        rintro e w1 ⟨rfl, hb1⟩
        obtain ⟨B1, bA⟩ := box1 (cA := [_, _, _]) hb1
        have c := bA.cell
        clear hb1
        go_wp2
        exact bodyPost_ret (v := .bool true) (by simp [results, Tryd.results45, go_sem]) rfl ⟨by rw [HE.out], B1⟩
set_option maxHeartbeats 1000000 in
set_option maxRecDepth 20000 in
theorem pathOk_i (p n v : ByteArray) (hp : p.size ≤ 1048576) (hn : n.size ≤ 1048576) (hv : v.size ≤ 1048576) (w : World) (hw : VerW w) : Calls Tryd.prog 47 #[.agg #[.string p, .string n, .string v]] w fun e w' => e = .returned (.bool (pathOk p n v)) ∧ Below w.heap.size w w' := by
  have HN := Lib.hid (fun w => nameOk_i n (by unfold maxLen; omega) w)
  have HP := Lib.hid (fun w => nameOk_i p (by unfold maxLen; omega) w)
  have HV := Lib.hid (fun w => versionOk_i v (by omega) w)
  have HW := Lib.hid (hw.below ((Below.refl _ _).alloc (Nat.le_refl _) (.cells #[.string p, .string n, .string v] 46)))
  clear hw
  have bp := nilT_bne p
  have bv := nilT_bne v
  cases nn : nameOk n
  · skip
    have HE := Lib.hid (show pathOk p n v = false by unfold pathOk; rw [nn]; simp)
    rw [nn] at HN
    clear bp
    clear bv
    clear nn
    go_enter Tryd.func47, Tryd.ntmps47
    go_wp2_with fail
    refine (HN.out _).mono ?_
    rintro e w1 ⟨rfl, hb1⟩
    have B0 := hb1
    obtain ⟨B1, bA⟩ := box1 (cA := [_, _, _]) hb1
    have c := bA.cell
    clear hb1
    go_wp2
    exact bodyPost_ret (v := .bool false) (by simp [results, Tryd.results47, go_sem]) rfl ⟨by rw [HE.out], B1⟩
  · cases pe : nilT p
    · cases np : nameOk p
      · skip
        have HE := Lib.hid (show pathOk p n v = false by unfold pathOk; rw [nn, pe, np]; simp)
        rw [nn] at HN
        rw [np] at HP
        rw [pe] at bp
        clear bv
        have ep : (p.toList == []) = _ := pe
        clear nn pe np
        go_enter Tryd.func47, Tryd.ntmps47
        go_wp2_with fail
        refine (HN.out _).mono ?_
        rintro e w1 ⟨rfl, hb1⟩
        have B0 := hb1
        obtain ⟨B1, bA⟩ := box1 (cA := [_, _, _]) hb1
        have c := bA.cell
        clear hb1
        go_wp2_with fail
        refine (HP.out _).mono ?_
        rintro e w2 ⟨rfl, hb2⟩
        replace B0 := B0.trans (hb2.mono B0.size)
        replace B1 := B1.trans (hb2.mono B1.size)
        replace bA := bA.call hb2
        clear c hb2
        have c := bA.cell
        go_wp2
        exact bodyPost_ret (v := .bool false) (by simp [results, Tryd.results47, go_sem]) rfl ⟨by rw [HE.out], B1⟩
      · cases ve : nilT v
        · skip
          have HE := Lib.hid (show pathOk p n v = numIs v by unfold pathOk; rw [nn, pe, np, ve]; simp)
          rw [nn] at HN
          rw [np] at HP
          rw [pe] at bp
          rw [ve] at bv
          have ep : (p.toList == []) = _ := pe
          have ev : (v.toList == []) = _ := ve
          clear nn pe np ve
          go_enter Tryd.func47, Tryd.ntmps47
          go_wp2_with fail
          refine (HN.out _).mono ?_
          rintro e w1 ⟨rfl, hb1⟩
          have B0 := hb1
          obtain ⟨B1, bA⟩ := box1 (cA := [_, _, _]) hb1
          have c := bA.cell
          clear hb1
          go_wp2_with fail
          refine (HP.out _).mono ?_
          rintro e w2 ⟨rfl, hb2⟩
          replace B0 := B0.trans (hb2.mono B0.size)
          replace B1 := B1.trans (hb2.mono B1.size)
          replace bA := bA.call hb2
          clear c hb2
          have c := bA.cell
          go_wp2_with fail
          refine (HV.out _ (HW.out.below B0)).mono ?_
          rintro e w3 ⟨rfl, hb3⟩
          replace B0 := B0.trans (hb3.mono B0.size)
          replace B1 := B1.trans (hb3.mono B1.size)
          replace bA := bA.call hb3
          clear c hb3
          have c := bA.cell
          go_wp2
          exact bodyPost_ret (v := .bool (numIs v)) (by simp [results, Tryd.results47, go_sem]) rfl ⟨by rw [HE.out], B1⟩
        · skip
          have HE := Lib.hid (show pathOk p n v = true by unfold pathOk; rw [nn, pe, np, ve]; simp)
          rw [nn] at HN
          rw [np] at HP
          rw [pe] at bp
          rw [ve] at bv
          have ep : (p.toList == []) = _ := pe
          have ev : (v.toList == []) = _ := ve
          clear nn pe np ve
          go_enter Tryd.func47, Tryd.ntmps47
          go_wp2_with fail
          refine (HN.out _).mono ?_
          rintro e w1 ⟨rfl, hb1⟩
          have B0 := hb1
          obtain ⟨B1, bA⟩ := box1 (cA := [_, _, _]) hb1
          have c := bA.cell
          clear hb1
          go_wp2_with fail
          refine (HP.out _).mono ?_
          rintro e w2 ⟨rfl, hb2⟩
          replace B0 := B0.trans (hb2.mono B0.size)
          replace B1 := B1.trans (hb2.mono B1.size)
          replace bA := bA.call hb2
          clear c hb2
          have c := bA.cell
          go_wp2
          exact bodyPost_ret (v := .bool true) (by simp [results, Tryd.results47, go_sem]) rfl ⟨by rw [HE.out], B1⟩
    · have np := nameOk_nil pe
      cases ve : nilT v
      · skip
        have HE := Lib.hid (show pathOk p n v = false by unfold pathOk; rw [nn, pe, np, ve]; simp)
        rw [nn] at HN
        rw [np] at HP
        rw [pe] at bp
        rw [ve] at bv
        have ep : (p.toList == []) = _ := pe
        have ev : (v.toList == []) = _ := ve
        clear nn pe np ve
        go_enter Tryd.func47, Tryd.ntmps47
        go_wp2_with fail
        refine (HN.out _).mono ?_
        rintro e w1 ⟨rfl, hb1⟩
        have B0 := hb1
        obtain ⟨B1, bA⟩ := box1 (cA := [_, _, _]) hb1
        have c := bA.cell
        clear hb1
        go_wp2_with fail
        refine (HP.out _).mono ?_
        rintro e w2 ⟨rfl, hb2⟩
        replace B0 := B0.trans (hb2.mono B0.size)
        replace B1 := B1.trans (hb2.mono B1.size)
        replace bA := bA.call hb2
        clear c hb2
        have c := bA.cell
        go_wp2
        exact bodyPost_ret (v := .bool false) (by simp [results, Tryd.results47, go_sem]) rfl ⟨by rw [HE.out], B1⟩
      · skip
        have HE := Lib.hid (show pathOk p n v = true by unfold pathOk; rw [nn, pe, np, ve]; simp)
        rw [nn] at HN
        rw [np] at HP
        rw [pe] at bp
        rw [ve] at bv
        have ep : (p.toList == []) = _ := pe
        have ev : (v.toList == []) = _ := ve
        clear nn pe np ve
        go_enter Tryd.func47, Tryd.ntmps47
        go_wp2_with fail
        refine (HN.out _).mono ?_
        rintro e w1 ⟨rfl, hb1⟩
        have B0 := hb1
        obtain ⟨B1, bA⟩ := box1 (cA := [_, _, _]) hb1
        have c := bA.cell
        clear hb1
        go_wp2
        exact bodyPost_ret (v := .bool true) (by simp [results, Tryd.results47, go_sem]) rfl ⟨by rw [HE.out], B1⟩
set_option maxHeartbeats 1000000 in
set_option maxRecDepth 20000 in
theorem pathT_s (p n v : ByteArray) (hp : p.size ≤ 1048576) (hn : n.size ≤ 1048576) (hv : v.size ≤ 1048576) (hpv : nilT p = true → nilT v = true) (w : World) : Calls Tryd.prog 46 #[.agg #[.string p, .string n, .string v]] w fun e w' => e = .returned (.string (pathT p n v)) ∧ Below w.heap.size w w' := by
  have bp := nilT_bne p
  have bv := nilT_bne v
  have x1 : ¬ 9223372036854775807 < p.size + 1 := by omega
  have x2 : ¬ 9223372036854775807 < p.size + 1 + n.size := by omega
  have x3 : ¬ 9223372036854775807 < 1 + v.size := by omega
  have x4 : ¬ 9223372036854775807 < p.size + 1 + n.size + (1 + v.size) := by omega
  have x5 : ¬ 9223372036854775807 < p.size + 1 + n.size + 1 := by omega
  have x6 : ¬ 9223372036854775807 < p.size + 1 + n.size + 1 + v.size := by omega
  cases pe : nilT p
  · cases ve : nilT v
    · skip
      have HE := Lib.hid (show pathT p n v = p ++ ⟨#[47]⟩ ++ n ++ (⟨#[64]⟩ ++ v) by unfold pathT; rw [pe, ve]; rfl)
      rw [pe] at bp
      rw [ve] at bv
      have ep : (p.toList == []) = _ := pe
      have ev : (v.toList == []) = _ := ve
      clear pe ve hpv
      go_enter Tryd.func46, Tryd.ntmps46
      go_wp2
      exact bodyPost_ret (v := .string (p ++ ⟨#[47]⟩ ++ n ++ (⟨#[64]⟩ ++ v))) (by simp [results, Tryd.results46, go_sem]) rfl ⟨by rw [HE.out], (Below.refl _ _).alloc (Nat.le_refl _) _⟩
    · skip
      have HE := Lib.hid (show pathT p n v = p ++ ⟨#[47]⟩ ++ n by unfold pathT; rw [pe, ve]; rfl)
      rw [pe] at bp
      rw [ve] at bv
      have ep : (p.toList == []) = _ := pe
      have ev : (v.toList == []) = _ := ve
      clear pe ve hpv
      go_enter Tryd.func46, Tryd.ntmps46
      go_wp2
      exact bodyPost_ret (v := .string (p ++ ⟨#[47]⟩ ++ n)) (by simp [results, Tryd.results46, go_sem]) rfl ⟨by rw [HE.out], (Below.refl _ _).alloc (Nat.le_refl _) _⟩
  · have ve := hpv pe
    have HE := Lib.hid (show pathT p n v = n by unfold pathT; rw [pe]; rfl)
    rw [pe] at bp
    rw [ve] at bv
    have ep : (p.toList == []) = _ := pe
    have ev : (v.toList == []) = _ := ve
    clear pe ve hpv
    go_enter Tryd.func46, Tryd.ntmps46
    go_wp2
    exact bodyPost_ret (v := .string (n)) (by simp [results, Tryd.results46, go_sem]) rfl ⟨by rw [HE.out], (Below.refl _ _).alloc (Nat.le_refl _) _⟩
set_option maxHeartbeats 1000000 in
set_option maxRecDepth 20000 in
theorem pathT_i (p n v : ByteArray) (hp : p.size ≤ 1048576) (hn : n.size ≤ 1048576) (hv : v.size ≤ 1048576) (hpv : nilT p = true → nilT v = true) (w : World) : Calls Tryd.prog 48 #[.agg #[.string p, .string n, .string v]] w fun e w' => e = .returned (.string (pathT p n v)) ∧ Below w.heap.size w w' := by
  have bp := nilT_bne p
  have bv := nilT_bne v
  have x1 : ¬ 9223372036854775807 < p.size + 1 := by omega
  have x2 : ¬ 9223372036854775807 < p.size + 1 + n.size := by omega
  have x3 : ¬ 9223372036854775807 < 1 + v.size := by omega
  have x4 : ¬ 9223372036854775807 < p.size + 1 + n.size + (1 + v.size) := by omega
  have x5 : ¬ 9223372036854775807 < p.size + 1 + n.size + 1 := by omega
  have x6 : ¬ 9223372036854775807 < p.size + 1 + n.size + 1 + v.size := by omega
  cases pe : nilT p
  · cases ve : nilT v
    · skip
      have HE := Lib.hid (show pathT p n v = p ++ ⟨#[47]⟩ ++ n ++ (⟨#[64]⟩ ++ v) by unfold pathT; rw [pe, ve]; rfl)
      rw [pe] at bp
      rw [ve] at bv
      have ep : (p.toList == []) = _ := pe
      have ev : (v.toList == []) = _ := ve
      clear pe ve hpv
      go_enter Tryd.func48, Tryd.ntmps48
      go_wp2
      exact bodyPost_ret (v := .string (p ++ ⟨#[47]⟩ ++ n ++ ⟨#[64]⟩ ++ v)) (by simp [results, Tryd.results48, go_sem]) rfl ⟨by rw [HE.out]; simp only [ByteArray.append_assoc], (Below.refl _ _).alloc (Nat.le_refl _) _⟩
    · skip
      have HE := Lib.hid (show pathT p n v = p ++ ⟨#[47]⟩ ++ n by unfold pathT; rw [pe, ve]; rfl)
      rw [pe] at bp
      rw [ve] at bv
      have ep : (p.toList == []) = _ := pe
      have ev : (v.toList == []) = _ := ve
      clear pe ve hpv
      go_enter Tryd.func48, Tryd.ntmps48
      go_wp2
      exact bodyPost_ret (v := .string (p ++ ⟨#[47]⟩ ++ n)) (by simp [results, Tryd.results48, go_sem]) rfl ⟨by rw [HE.out], (Below.refl _ _).alloc (Nat.le_refl _) _⟩
  · have ve := hpv pe
    have HE := Lib.hid (show pathT p n v = n by unfold pathT; rw [pe]; rfl)
    rw [pe] at bp
    rw [ve] at bv
    have ep : (p.toList == []) = _ := pe
    have ev : (v.toList == []) = _ := ve
    clear pe ve hpv
    go_enter Tryd.func48, Tryd.ntmps48
    go_wp2
    exact bodyPost_ret (v := .string (n)) (by simp [results, Tryd.results48, go_sem]) rfl ⟨by rw [HE.out], (Below.refl _ _).alloc (Nat.le_refl _) _⟩
set_option maxHeartbeats 1000000 in
set_option maxRecDepth 20000 in
theorem pathText_s (p n v : ByteArray) (hp : p.size ≤ 1048576) (hn : n.size ≤ 1048576) (hv : v.size ≤ 1048576) (w : World) : Calls Tryd.prog 28 #[.agg #[.string p, .string n, .string v]] w fun e w' => e = .returned (.string (pathOr p n v)) ∧ Below w.heap.size w w' := by
  have HO := Lib.hid (fun w => pathOk_s p n v hp hn hv w)
  cases ok : pathOk p n v
  · have HE := Lib.hid (show pathOr p n v = ⟨#[]⟩ by unfold pathOr; rw [ok]; rfl)
    rw [ok] at HO
    clear ok
    go_enter Tryd.func28, Tryd.ntmps28
    go_wp2_with fail
    refine (HO.out _).mono ?_
    rintro e w1 ⟨rfl, hb1⟩
    obtain ⟨B1, bA⟩ := box1 (cA := [_, _, _]) hb1
    clear hb1
    go_wp2
    exact bodyPost_ret (v := .string ⟨#[]⟩) (by simp [results, Tryd.results28, go_sem]) rfl ⟨by rw [HE.out], B1⟩
  · have HE := Lib.hid (show pathOr p n v = pathT p n v by unfold pathOr; rw [ok]; rfl)
    have HT := Lib.hid (fun w => pathT_s p n v hp hn hv (fun h => by
      unfold pathOk at ok
      rw [h, nameOk_nil h] at ok
      cases hv : nilT v
      · rw [hv] at ok
        simp at ok
      · rfl) w)
    rw [ok] at HO
    clear ok
    go_enter Tryd.func28, Tryd.ntmps28
    go_wp2_with fail
    refine (HO.out _).mono ?_
    rintro e w1 ⟨rfl, hb1⟩
    obtain ⟨B1, bA⟩ := box1 (cA := [_, _, _]) hb1
    have c := bA.cell
    clear hb1
    go_wp2_with fail
    refine (HT.out _).mono ?_
    rintro e w2 ⟨rfl, hb2⟩
    have B2 := B1.trans (hb2.mono B1.size)
    clear hb2 c
    go_wp2
    exact bodyPost_ret (v := .string (pathT p n v)) (by simp [results, Tryd.results28, go_sem]) rfl ⟨by rw [HE.out], B2⟩
set_option maxHeartbeats 1000000 in
set_option maxRecDepth 20000 in
theorem pathText_i (p n v : ByteArray) (hp : p.size ≤ 1048576) (hn : n.size ≤ 1048576) (hv : v.size ≤ 1048576) (w : World) (hw : VerW w) : Calls Tryd.prog 30 #[.agg #[.string p, .string n, .string v]] w fun e w' => e = .returned (.string (pathOr p n v)) ∧ Below w.heap.size w w' := by
  have HW := Lib.hid (hw.below ((Below.refl _ _).alloc (Nat.le_refl _) (.cells #[.string p, .string n, .string v] 46)))
  clear hw
  have HO := Lib.hid (fun w => pathOk_i p n v hp hn hv w)
  cases ok : pathOk p n v
  · have HE := Lib.hid (show pathOr p n v = ⟨#[]⟩ by unfold pathOr; rw [ok]; rfl)
    rw [ok] at HO
    clear ok
    go_enter Tryd.func30, Tryd.ntmps30
    go_wp2_with fail
    refine (HO.out _ HW.out).mono ?_
    rintro e w1 ⟨rfl, hb1⟩
    obtain ⟨B1, bA⟩ := box1 (cA := [_, _, _]) hb1
    clear hb1
    go_wp2
    exact bodyPost_ret (v := .string ⟨#[]⟩) (by simp [results, Tryd.results30, go_sem]) rfl ⟨by rw [HE.out], B1⟩
  · have HE := Lib.hid (show pathOr p n v = pathT p n v by unfold pathOr; rw [ok]; rfl)
    have HT := Lib.hid (fun w => pathT_i p n v hp hn hv (fun h => by
      unfold pathOk at ok
      rw [h, nameOk_nil h] at ok
      cases hv : nilT v
      · rw [hv] at ok
        simp at ok
      · rfl) w)
    rw [ok] at HO
    clear ok
    go_enter Tryd.func30, Tryd.ntmps30
    go_wp2_with fail
    refine (HO.out _ HW.out).mono ?_
    rintro e w1 ⟨rfl, hb1⟩
    obtain ⟨B1, bA⟩ := box1 (cA := [_, _, _]) hb1
    have c := bA.cell
    clear hb1
    go_wp2_with fail
    refine (HT.out _).mono ?_
    rintro e w2 ⟨rfl, hb2⟩
    have B2 := B1.trans (hb2.mono B1.size)
    clear hb2 c
    go_wp2
    exact bodyPost_ret (v := .string (pathT p n v)) (by simp [results, Tryd.results30, go_sem]) rfl ⟨by rw [HE.out], B2⟩
end Go.Proofs.YtadngjalhekmlaaDoor
