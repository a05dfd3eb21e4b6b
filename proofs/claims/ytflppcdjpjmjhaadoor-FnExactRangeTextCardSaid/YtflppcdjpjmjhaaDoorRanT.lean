/- The text of a range: by the reference and by the program. -/
import Derived.Test.YtflppcdjpjmjhaaDoorVer
import Derived.Test.YtflppcdjpjmjhaaDoorRanges
import Derived.Test.YtflppcdjpjmjhaaDoorData
import Derived.Deep.QuietTactic
import Derived.BigQuiet
namespace Go.Proofs.YtflppcdjpjmjhaaDoor
open Go.RowKit Go.Shelf

/-- The end of a range with a sign. -/
def belowN (c n : Nat) : Nat :=
  if c = 61 then n + 1 else if c = 126 ∨ c = 94 ∧ n < 1000000 then n / 1000 * 1000 + 1000 else if c = 94 then n / 1000000 * 1000000 + 1000000 else if c = 62 then 1000000000 else 0
theorem l02Below_s (c n : Nat) (r : Int) (hc : c = 61 ∨ c = 126 ∨ c = 94 ∨ c = 62) (hn : n ≤ 999999999) (hr : (belowN c n : Int) = r) (w : World) :
    Calls Tryd.prog 45 #[.int .u8 c, .int .i64 n] w fun e w' => e = .returned (.int .i64 r) ∧ w = w' := by
  have HR := Lib.hid hr
  clear hr
  rcases hc with rfl | rfl | rfl | rfl
  · have HE := Lib.hid (show r = (n : Int) + 1 by rw [← HR.out]; simp [belowN])
    go_enter Tryd.func45, Tryd.ntmps45
    go_wp2
    go_ret
    exact ⟨ret_eq (by rw [HE.out]; try rfl), rfl⟩
  · have HE := Lib.hid (show r = (n : Int) / 1000 * 1000 + 1000 by rw [← HR.out]; simp [belowN])
    go_enter Tryd.func45, Tryd.ntmps45
    go_wp2
    go_ret
    exact ⟨ret_eq (by rw [HE.out]; try rfl), rfl⟩
  · by_cases h : n < 1000000
    · have hi : (n : Int) < 1000000 := by omega
      have HE := Lib.hid (show r = (n : Int) / 1000 * 1000 + 1000 by rw [← HR.out]; simp [belowN, h])
      clear h
      go_enter Tryd.func45, Tryd.ntmps45
      go_wp2
      go_ret
      exact ⟨ret_eq (by rw [HE.out]; try rfl), rfl⟩
    · have hi : ¬ (n : Int) < 1000000 := by omega
      have HE := Lib.hid (show r = (n : Int) / 1000000 * 1000000 + 1000000 by rw [← HR.out]; simp [belowN, h])
      clear h
      go_enter Tryd.func45, Tryd.ntmps45
      go_wp2
      go_ret
      exact ⟨ret_eq (by rw [HE.out]; try rfl), rfl⟩
  · have HE := Lib.hid (show r = 1000000000 by rw [← HR.out]; simp [belowN])
    go_enter Tryd.func45, Tryd.ntmps45
    go_wp2
    go_ret
    exact ⟨ret_eq (by rw [HE.out]; try rfl), rfl⟩
def signS (c : Nat) : ByteArray := ⟨#[UInt8.ofNat c]⟩
theorem belowOf_i (c n : Nat) (r : Int) (s : ByteArray) (hc : c = 61 ∧ s = ⟨#[61]⟩ ∨ c = 126 ∧ s = ⟨#[126]⟩ ∨ c = 94 ∧ s = ⟨#[94]⟩ ∨ c = 62 ∧ s = ⟨#[62]⟩) (hn : n ≤ 999999999) (hr : (belowN c n : Int) = r) (w : World) :
    Calls Tryd.prog 47 #[.string s, .int .i64 n] w fun e w' => e = .returned (.int .i64 r) ∧ w = w' := by
  have HR := Lib.hid hr
  clear hr
  rcases hc with ⟨rfl, rfl⟩ | ⟨rfl, rfl⟩ | ⟨rfl, rfl⟩ | ⟨rfl, rfl⟩
  · have HE := Lib.hid (show r = (n : Int) + 1 by rw [← HR.out]; simp [belowN])
    go_enter Tryd.func47, Tryd.ntmps47
    go_wp2
    go_ret
    exact ⟨ret_eq (by rw [HE.out]; try rfl), rfl⟩
  · have HE := Lib.hid (show r = (n : Int) / 1000 * 1000 + 1000 by rw [← HR.out]; simp [belowN])
    go_enter Tryd.func47, Tryd.ntmps47
    go_wp2
    go_ret
    exact ⟨ret_eq (by rw [HE.out]; try rfl), rfl⟩
  · by_cases h : n < 1000000
    · have hi : ¬ 1000000 ≤ (n : Int) := by omega
      have HE := Lib.hid (show r = (n : Int) / 1000 * 1000 + 1000 by rw [← HR.out]; simp [belowN, h])
      clear h
      go_enter Tryd.func47, Tryd.ntmps47
      go_wp2
      go_ret
      exact ⟨ret_eq (by rw [HE.out]; try rfl), rfl⟩
    · have hi : 1000000 ≤ (n : Int) := by omega
      have HE := Lib.hid (show r = (n : Int) / 1000000 * 1000000 + 1000000 by rw [← HR.out]; simp [belowN, h])
      clear h
      go_enter Tryd.func47, Tryd.ntmps47
      go_wp2
      go_ret
      exact ⟨ret_eq (by rw [HE.out]; try rfl), rfl⟩
  · have HE := Lib.hid (show r = 1000000000 by rw [← HR.out]; simp [belowN])
    go_enter Tryd.func47, Tryd.ntmps47
    go_wp2
    go_ret
    exact ⟨ret_eq (by rw [HE.out]; try rfl), rfl⟩
/-- The text of a valid range. -/
def ranT (a b : Nat) : ByteArray :=
  if belowN 61 a = b then ⟨#[61]⟩ ++ verT a else if belowN 126 a = b then ⟨#[126]⟩ ++ verT a else if belowN 94 a = b then ⟨#[94]⟩ ++ verT a else if belowN 62 a = b then ⟨#[62]⟩ ++ verT a
  else ⟨#[62]⟩ ++ verT a ++ ⟨#[32, 60]⟩ ++ verT b
def ranOr (a b : Int) : ByteArray := if rangeOk a b = true then ranT a.toNat b.toNat else ⟨#[]⟩
theorem ranOr_yes {a b : Nat} (h : rangeOk (a : Int) (b : Int) = true) : ranOr (a : Int) (b : Int) = ranT a b := by rw [ranOr, if_pos h]; rfl
/-- Before operator i none has served. -/
def opAt (i : Nat) : Nat := if i = 0 then 61 else if i = 1 then 126 else if i = 2 then 94 else 62
def NoOp (a b i : Nat) : Prop := ∀ j, j < i → belowN (opAt j) a ≠ b
theorem ranT_hit {a b i : Nat} (hi : i < 4) (hno : NoOp a b i) (h : belowN (opAt i) a = b) : ranT a b = ⟨#[UInt8.ofNat (opAt i)]⟩ ++ verT a := by
  unfold ranT
  match i, hi with
  | 0, _ => rw [if_pos (show belowN 61 a = b from h)]; rfl
  | 1, _ => rw [if_neg (show ¬ belowN 61 a = b from hno 0 (by omega)), if_pos (show belowN 126 a = b from h)]; rfl
  | 2, _ => rw [if_neg (show ¬ belowN 61 a = b from hno 0 (by omega)), if_neg (show ¬ belowN 126 a = b from hno 1 (by omega)), if_pos (show belowN 94 a = b from h)]; rfl
  | 3, _ => rw [if_neg (show ¬ belowN 61 a = b from hno 0 (by omega)), if_neg (show ¬ belowN 126 a = b from hno 1 (by omega)), if_neg (show ¬ belowN 94 a = b from hno 2 (by omega)), if_pos (show belowN 62 a = b from h)]; rfl
theorem ranT_none {a b : Nat} (hno : NoOp a b 4) : ranT a b = ⟨#[62]⟩ ++ verT a ++ ⟨#[32, 60]⟩ ++ verT b := by
  unfold ranT
  rw [if_neg (show ¬ belowN 61 a = b from hno 0 (by omega)), if_neg (show ¬ belowN 126 a = b from hno 1 (by omega)), if_neg (show ¬ belowN 94 a = b from hno 2 (by omega)), if_neg (show ¬ belowN 62 a = b from hno 3 (by omega))]
theorem NoOp.next {a b i : Nat} (hno : NoOp a b i) (h : belowN (opAt i) a ≠ b) : NoOp a b (i + 1) := fun j hj => by
  rcases Nat.lt_or_ge j i with h1 | h1
  · exact hno j h1
  · obtain rfl : j = i := by omega
    exact h
theorem rangeOk_open {a b : Int} (h : rangeOk a b = true) : 0 ≤ a ∧ a ≤ 999999999 ∧ a + 1 ≤ b ∧ b ≤ 1000000000 := by
  unfold rangeOk at h
  rw [Bool.and_eq_true, inR_iff, inR_iff] at h
  exact ⟨h.1.1, h.1.2, h.2.1, h.2.2⟩
set_option maxHeartbeats 2000000 in
set_option maxRecDepth 20000 in
theorem rangeText_s (a b : Int) (ha : -9223372036854775808 ≤ a ∧ a ≤ 9223372036854775807) (w : World) :
    Calls Tryd.prog 15 #[.agg #[.int .i64 a, .int .i64 b]] w fun e w' => e = .returned (.string (ranOr a b)) ∧ Below w.heap.size w w' := by
  cases hok : rangeOk a b
  · have HV := Lib.hid (show ranOr a b = ⟨#[]⟩ by rw [ranOr, if_neg (by rw [hok]; decide)])
    have HO := Lib.hid hok
    clear hok
    go_enter Tryd.func15, Tryd.ntmps15
    go_wp2_with fail
    refine (rangeOk_s a b _ ha.1 ha.2).mono ?_
    rintro e w1 ⟨rfl, hb1⟩
    rw [HO.out]
    obtain ⟨B1, -⟩ := box1 (cA := [_, _]) hb1
    clear hb1
    go_wp2
    go_ret
    exact ⟨ret_eq (by rw [HV.out]; try rfl), B1⟩
  · obtain ⟨h1, h2, h3, h4⟩ := rangeOk_open hok
    obtain ⟨m, rfl⟩ : ∃ m : Nat, a = m := ⟨a.toNat, by omega⟩
    obtain ⟨n, rfl⟩ : ∃ n : Nat, b = n := ⟨b.toNat, by omega⟩
    have hm : m ≤ 999999999 := by omega
    have hn : n ≤ 1000000000 := by omega
    have HV := Lib.hid (ranOr_yes hok)
    have HO := Lib.hid hok
    have hvm := verT_size m hm
    have HT := Lib.hid (fun w => l02Text_s m hm w)
    obtain ⟨X, hX⟩ : ∃ X, verT m = X := ⟨_, rfl⟩
    have HX := Lib.hid hX
    rw [hX] at hvm HT
    have hx1 : ¬ 9223372036854775807 < 1 + X.size := by omega
    have hx2 : ¬ 9223372036854775807 < 1 + X.size + 2 := by omega
    clear hok h1 h2 h3 h4 hX
    go_enter Tryd.func15, Tryd.ntmps15
    go_wp2_with fail
    refine (rangeOk_s m n _ ha.1 ha.2).mono ?_
    rintro e w1 ⟨rfl, hb1⟩
    rw [HO.out]
    obtain ⟨B1, bA⟩ := box1 (cA := [_, _]) hb1
    clear hb1
    have c := bA.cell
    go_wp2
    go_loopw [4] (fun i wr => ∃ j : Nat, j ≤ 4 ∧ i = .int .i64 j ∧ NoOp m n j ∧ Below w1.heap.size w1 wr) (fun i _ => 4 - (intOf i).toNat)
    case atStart => exact ⟨0, by omega, rfl, fun j hj => absurd hj (by omega), Below.refl _ _⟩
    case round =>
      obtain ⟨j, hj, rfl, hno, hb⟩ := hrel
      have Bw := B1.trans (hb.mono B1.size)
      have fA := bA.call hb
      clear c
      have c0 := cell_regrown (show wr.cell? ⟨w.heap.size, 0, none⟩ = some (.int .i64 m) from fA.cell 0)
      have c1 := cell_regrown (show wr.cell? ⟨w.heap.size, 1, none⟩ = some (.int .i64 n) from fA.cell 1)
      have HNO := Lib.hid hno
      clear hno
      have hj5 : j = 0 ∨ j = 1 ∨ j = 2 ∨ j = 3 ∨ j = 4 := by omega
      clear hj
      rcases hj5 with rfl | rfl | rfl | rfl | rfl
      case' inl => have q := (show 0 < 4 by omega); obtain ⟨r, hr⟩ : ∃ r : Int, (belowN 61 m : Int) = r := ⟨_, rfl⟩; have HB := Lib.hid (fun w => l02Below_s 61 m r (.inl rfl) hm hr w)
      case' inr.inl => have q := (show 1 < 4 by omega); obtain ⟨r, hr⟩ : ∃ r : Int, (belowN 126 m : Int) = r := ⟨_, rfl⟩; have HB := Lib.hid (fun w => l02Below_s 126 m r (.inr (.inl rfl)) hm hr w)
      case' inr.inr.inl => have q := (show 2 < 4 by omega); obtain ⟨r, hr⟩ : ∃ r : Int, (belowN 94 m : Int) = r := ⟨_, rfl⟩; have HB := Lib.hid (fun w => l02Below_s 94 m r (.inr (.inr (.inl rfl))) hm hr w)
      case' inr.inr.inr.inl => have q := (show 3 < 4 by omega); obtain ⟨r, hr⟩ : ∃ r : Int, (belowN 62 m : Int) = r := ⟨_, rfl⟩; have HB := Lib.hid (fun w => l02Below_s 62 m r (.inr (.inr (.inr rfl))) hm hr w)
      case inr.inr.inr.inr =>
        have h9 : n ≤ 999999999 ∨ n = 1000000000 := by omega
        have hn9 : n ≤ 999999999 := by
          rcases h9 with h9 | h9
          · exact h9
          · exact absurd (show belowN (opAt 3) m = n by rw [h9]; rfl) (HNO.out 3 (by omega))
        clear h9
        have hvn := verT_size n hn9
        have HTn := Lib.hid (fun w => l02Text_s n hn9 w)
        obtain ⟨Y, hY⟩ : ∃ Y, verT n = Y := ⟨_, rfl⟩
        rw [hY] at hvn HTn
        have HE := Lib.hid (show ranOr (m : Int) (n : Int) = ⟨#[62]⟩ ++ X ++ ⟨#[32, 60]⟩ ++ Y by rw [HV.out, ranT_none HNO.out, HX.out, hY])
        have hx3 : ¬ 9223372036854775807 < 1 + X.size + 2 + Y.size := by omega
        clear hY
        go_wp2_with fail
        refine wp_region_quiet_below (by kernel_rfl) (by kernel_rfl) ?_
        repeat (first | go_big_quiet_step (first | with_reducible exact Calls.regrown_of (HT.out _) | with_reducible exact Calls.regrown_of (HTn.out _)) | quiet_step (first | with_reducible exact Calls.regrown_of (HT.out _) | with_reducible exact Calls.regrown_of (HTn.out _)))
        refine wpQuiet_nil ?_
        intro w2 hw2
        have B2 := Bw.trans ((below_of_regrown hw2).mono Bw.size)
        clear hw2 c0 c1
        go_wp2
        go_ret
        exact ⟨ret_eq (by rw [HE.out]; try rfl), B2⟩
      all_goals
        go_wp2_with fail
        refine wp_region_quiet_below (by kernel_rfl) (by kernel_rfl) ?_
        repeat (first | go_big_quiet_step (exact regrown_same (HB.out _)) | quiet_step (exact regrown_same (HB.out _)))
        refine wpQuiet_nil ?_
        intro w2 hw2
        have B2 := Bw.trans ((below_of_regrown hw2).mono Bw.size)
        have b2 := hb.trans ((below_of_regrown hw2).mono hb.size)
        have c0' := cell_regrown (show w2.cell? ⟨w.heap.size, 0, none⟩ = some (.int .i64 m) from (fA.call (below_of_regrown hw2)).cell 0)
        have HR := Lib.hid hr
        clear hw2 c0 c1 hr
        by_cases hrn : r = (n : Int)
        · have g : (r == (n : Int)) = true := by simp [hrn]
          have HE := Lib.hid (show ranOr (m : Int) (n : Int) = _ ++ X by rw [HV.out, ranT_hit q HNO.out (by have h := HR.out; rw [hrn] at h; exact Int.ofNat_inj.1 h), HX.out])
          clear hrn
          go_wp2_with fail
          refine wp_region_quiet_below (by kernel_rfl) (by kernel_rfl) ?_
          repeat (first | go_big_quiet_step (exact Calls.regrown_of (HT.out _)) | quiet_step (exact Calls.regrown_of (HT.out _)))
          refine wpQuiet_nil ?_
          intro w3 hw3
          have B3 := B2.trans ((below_of_regrown hw3).mono B2.size)
          clear hw3 c0'
          go_wp2
          go_ret
          exact ⟨ret_eq (by rw [HE.out]; rfl), B3⟩
        · have g : (r == (n : Int)) = false := by simp [hrn]
          have HN := Lib.hid (HNO.out.next (fun h => hrn (by rw [← HR.out]; exact congrArg Int.ofNat h)))
          clear hrn c0'
          go_wp2
          go_roundw
          case rel => exact ⟨_, by omega, by go_num, HN.out, b2⟩
          case measure => simp [intOf]; try omega
def opsRow : List Value := [.string ⟨#[61]⟩, .string ⟨#[126]⟩, .string ⟨#[94]⟩, .string ⟨#[62]⟩]
set_option maxHeartbeats 2000000 in
set_option maxRecDepth 20000 in
theorem rangeText_i (a b : Int) (ha : -9223372036854775808 ≤ a ∧ a ≤ 9223372036854775807) (w : World) (ht : Tab10 w) :
    Calls Tryd.prog 17 #[.agg #[.int .i64 a, .int .i64 b]] w fun e w' => e = .returned (.string (ranOr a b)) ∧ Below w.heap.size w w' := by
  have HTab := Lib.hid ht
  clear ht
  cases hok : rangeOk a b
  · have HV := Lib.hid (show ranOr a b = ⟨#[]⟩ by rw [ranOr, if_neg (by rw [hok]; decide)])
    have HO := Lib.hid hok
    clear hok
    go_enter Tryd.func17, Tryd.ntmps17
    go_wp2_with fail
    refine (rangeOk_i a b _ ha.1 ha.2).mono ?_
    rintro e w1 ⟨rfl, hb1⟩
    rw [HO.out]
    obtain ⟨B1, -⟩ := box1 (cA := [_, _]) hb1
    clear hb1
    go_wp2
    go_ret
    exact ⟨ret_eq (by rw [HV.out]; try rfl), B1⟩
  · obtain ⟨h1, h2, h3, h4⟩ := rangeOk_open hok
    obtain ⟨m, rfl⟩ : ∃ m : Nat, a = m := ⟨a.toNat, by omega⟩
    obtain ⟨n, rfl⟩ : ∃ n : Nat, b = n := ⟨b.toNat, by omega⟩
    have hm : m ≤ 999999999 := by omega
    have hn : n ≤ 1000000000 := by omega
    have HV := Lib.hid (ranOr_yes hok)
    have HO := Lib.hid hok
    have hvm := verT_size m hm
    have HT := Lib.hid (fun w h => versionOf_i (m : Int) w h)
    have e1 : verOr (m : Int) = verT m := by rw [verOr, if_pos (by omega)]; rfl
    rw [e1] at HT
    obtain ⟨X, hX⟩ : ∃ X, verT m = X := ⟨_, rfl⟩
    have HX := Lib.hid hX
    rw [hX] at hvm HT
    have hx1 : ¬ 9223372036854775807 < 1 + X.size := by omega
    have hx2 : ¬ 9223372036854775807 < 1 + X.size + 2 := by omega
    clear hok h1 h2 h3 h4 hX e1
    go_enter Tryd.func17, Tryd.ntmps17
    go_wp2_with fail
    refine (rangeOk_i m n _ ha.1 ha.2).mono ?_
    rintro e w1 ⟨rfl, hb1⟩
    rw [HO.out]
    obtain ⟨B1, bA⟩ := box1 (cA := [_, _]) hb1
    clear hb1
    have c := bA.cell
    have BR := Lib.hid (Box.new w1 9 opsRow)
    have B1' := B1.alloc B1.size (.cells opsRow.toArray 9)
    have bA' := bA.alloc (.cells opsRow.toArray 9)
    have HB1 := Lib.hid (And.intro B1' bA')
    have hAlt := bA.lt
    clear B1 bA B1' bA'
    go_wp2
    go_loopw [4, 10] (fun _ i wr => ∃ j : Nat, j ≤ 4 ∧ i = .int .i64 j ∧ NoOp m n j ∧ Below w.heap.size w wr ∧ Box wr w.heap.size 27 [.int .i64 m, .int .i64 n] ∧ Box wr w1.heap.size 9 opsRow) (fun _ i _ => 4 - (intOf i).toNat)
    case atStart => exact ⟨0, by omega, rfl, fun j hj => absurd hj (by omega), HB1.out.1, HB1.out.2, BR.out⟩
    case round =>
      obtain ⟨j, hj, rfl, hno, Bw, fA, fR⟩ := hrel
      clear c
      have c0 := cell_regrown (show wr.cell? ⟨w.heap.size, 0, none⟩ = some (.int .i64 m) from fA.cell 0)
      have c1 := cell_regrown (show wr.cell? ⟨w.heap.size, 1, none⟩ = some (.int .i64 n) from fA.cell 1)
      have HNO := Lib.hid hno
      have TW := Lib.hid (HTab.out.below Bw)
      clear hno
      have hj5 : j = 0 ∨ j = 1 ∨ j = 2 ∨ j = 3 ∨ j = 4 := by omega
      clear hj
      rcases hj5 with rfl | rfl | rfl | rfl | rfl
      case' inl => have q := (show 0 < 4 by omega); obtain ⟨r, hr⟩ : ∃ r : Int, (belowN 61 m : Int) = r := ⟨_, rfl⟩; have HB := Lib.hid (fun w => belowOf_i 61 m r ⟨#[61]⟩ (.inl ⟨rfl, rfl⟩) hm hr w); have d0 : wr.cell? ⟨w1.heap.size, 0, none⟩ = some (.string ⟨#[61]⟩) := fR.cell 0
      case' inr.inl => have q := (show 1 < 4 by omega); obtain ⟨r, hr⟩ : ∃ r : Int, (belowN 126 m : Int) = r := ⟨_, rfl⟩; have HB := Lib.hid (fun w => belowOf_i 126 m r ⟨#[126]⟩ (.inr (.inl ⟨rfl, rfl⟩)) hm hr w); have d0 : wr.cell? ⟨w1.heap.size, 1, none⟩ = some (.string ⟨#[126]⟩) := fR.cell 1
      case' inr.inr.inl => have q := (show 2 < 4 by omega); obtain ⟨r, hr⟩ : ∃ r : Int, (belowN 94 m : Int) = r := ⟨_, rfl⟩; have HB := Lib.hid (fun w => belowOf_i 94 m r ⟨#[94]⟩ (.inr (.inr (.inl ⟨rfl, rfl⟩))) hm hr w); have d0 : wr.cell? ⟨w1.heap.size, 2, none⟩ = some (.string ⟨#[94]⟩) := fR.cell 2
      case' inr.inr.inr.inl => have q := (show 3 < 4 by omega); obtain ⟨r, hr⟩ : ∃ r : Int, (belowN 62 m : Int) = r := ⟨_, rfl⟩; have HB := Lib.hid (fun w => belowOf_i 62 m r ⟨#[62]⟩ (.inr (.inr (.inr ⟨rfl, rfl⟩))) hm hr w); have d0 : wr.cell? ⟨w1.heap.size, 3, none⟩ = some (.string ⟨#[62]⟩) := fR.cell 3
      case inr.inr.inr.inr =>
        have h9 : n ≤ 999999999 ∨ n = 1000000000 := by omega
        have hn9 : n ≤ 999999999 := by
          rcases h9 with h9 | h9
          · exact h9
          · exact absurd (show belowN (opAt 3) m = n by rw [h9]; rfl) (HNO.out 3 (by omega))
        clear h9
        have hvn := verT_size n hn9
        have HTn := Lib.hid (fun w h => versionOf_i (n : Int) w h)
        have e1 : verOr (n : Int) = verT n := by rw [verOr, if_pos (by omega)]; rfl
        rw [e1] at HTn
        obtain ⟨Y, hY⟩ : ∃ Y, verT n = Y := ⟨_, rfl⟩
        rw [hY] at hvn HTn
        have HE := Lib.hid (show ranOr (m : Int) (n : Int) = ⟨#[62]⟩ ++ X ++ ⟨#[32, 60]⟩ ++ Y by rw [HV.out, ranT_none HNO.out, HX.out, hY])
        have hx3 : ¬ 9223372036854775807 < 1 + X.size + 2 + Y.size := by omega
        clear hY e1
        go_wp2_with fail
        refine wp_region_quiet_below (by kernel_rfl) (by kernel_rfl) ?_
        repeat (first | go_big_quiet_step (first | with_reducible exact Calls.regrown_of (HT.out _ (TW.out.below (below_regrown _ _ _))) | with_reducible exact Calls.regrown_of (HTn.out _ (TW.out.below (below_regrown _ _ _)))) | quiet_step (fail))
        refine wpQuiet_nil ?_
        intro w2 hw2
        have B2 := Bw.trans ((below_of_regrown hw2).mono Bw.size)
        clear hw2 c0 c1
        go_wp2
        go_ret
        exact ⟨ret_eq (by rw [HE.out]; try rfl), B2⟩
      all_goals
        go_wp2_with fail
        refine wp_region_quiet_below (by kernel_rfl) (by kernel_rfl) ?_
        repeat (first | go_big_quiet_step (exact regrown_same (HB.out _)) | quiet_step (exact regrown_same (HB.out _)))
        refine wpQuiet_nil ?_
        intro w2 hw2
        have B2 := Bw.trans ((below_of_regrown hw2).mono Bw.size)
        have T2 := Lib.hid (TW.out.below (below_of_regrown hw2))
        have f2 := fA.call (below_of_regrown hw2)
        have r2 := Lib.hid (fR.call (below_of_regrown hw2))
        have c2 := f2.cell
        have HR := Lib.hid hr
        clear hw2 c0 c1 hr d0
        by_cases hrn : r = (n : Int)
        · have g : (r == (n : Int)) = true := by simp [hrn]
          have HE := Lib.hid (show ranOr (m : Int) (n : Int) = _ ++ X by rw [HV.out, ranT_hit q HNO.out (by have h := HR.out; rw [hrn] at h; exact Int.ofNat_inj.1 h), HX.out])
          clear hrn
          go_wp2_with fail
          refine (HT.out _ T2.out).mono ?_
          rintro e w3 ⟨rfl, hb3⟩
          have B3 := B2.trans (hb3.mono B2.size)
          clear hb3 c2
          go_wp2
          go_ret
          exact ⟨ret_eq (by rw [HE.out]; rfl), B3⟩
        · have g : (r == (n : Int)) = false := by simp [hrn]
          have HN := Lib.hid (HNO.out.next (fun h => hrn (by rw [← HR.out]; exact congrArg Int.ofNat h)))
          clear hrn c2
          go_wp2
          go_roundw
          case rel => exact ⟨_, by omega, by go_num, HN.out, B2, f2, r2.out⟩
          case measure => simp [intOf]; try omega
end Go.Proofs.YtflppcdjpjmjhaaDoor
