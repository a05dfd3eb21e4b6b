/- The default value of a type: by the program. -/
import Derived.Test.YtnfkdncfbojiiaaDefS
import Derived.Test.YtnfkdncfbojiiaaTyKids
import Derived.Test.YtnfkdncfbojiiaaTyHas
import Derived.Laws.IdiomCopy
namespace Go.Proofs.Ytnfkdncfbojiiaa
open Go.RowKit

theorem and_1 : bits .and .u64 1 4294967295 = 1 := by decide +kernel
theorem and_0 : bits .and .u64 0 4294967295 = 0 := by decide +kernel
set_option maxRecDepth 20000 in
theorem mul64_10 (w : World) : Calls Try.prog 107 #[.int .u64 1, .int .u64 0] w fun e w' => e = .returned (.tuple #[.int .u64 0, .int .u64 0]) ∧ w = w' := by
  have a1 := and_1
  have a0 := and_0
  go_enter Try.func107, Try.ntmps107
  go_wp2
  go_ret2
  exact ⟨rfl, rfl⟩
set_option maxRecDepth 20000 in
theorem mul_10 (w : World) : Calls Try.prog 94 #[.int .u64 1, .int .u64 0] w fun e w' => e = .returned (.tuple #[.int .u64 0, .int .u64 0]) ∧ w = w' := by
  go_enter Try.func94, Try.ntmps94
  go_wp2_with (go_at_call 107; refine (mul64_10 _).mono ?_; rintro e w1 ⟨rfl, rfl⟩)
  go_ret2
  exact ⟨rfl, rfl⟩
theorem copy_none_any {P : Program} (w : World) (dT sT ty elem : TypeId) {i : TypeInfo} (d a : Option Addr) (dLen dCap sLen sCap : Nat) (hu : P.underlying dT = some (.slice elem)) (hi : P.info? elem = some i) (hn : Nat.min sLen dLen = 0) :
    (Builtin.copy_ #[dT, sT] ty #[.slice d dLen dCap, .slice a sLen sCap]).run P w = .ok (goInt 0) w := by
  have hl : ∀ (x : Addr), (loadCells x 0).run P w = .ok #[] w := fun x => by simpa using run_loadCells_list (P := P) w x [] (by simp)
  cases d <;> cases a <;> simp [Builtin.copy_, run_underlying hu, Builtin.lenOf, Builtin.firstCells, sizeOf, typeInfo, hi, hn, storeCells, hl]
theorem info_kT : (Try.prog.info? 33).map (fun i => (i.zero, i.size, i.bytes)) = some (some (.agg #[.int .i64 0, .string ⟨#[]⟩, .slice none 0 0, .slice none 0 0]), 4, 72) := by kernel_rfl
set_option maxRecDepth 20000 in
theorem repeat_10 (A : Option Addr) (c : Nat) (w : World) : Calls Try.prog 75 #[.slice A 1 c, .int .i64 0] w fun e w' => ∃ A' c', e = .returned (.slice A' 0 c') ∧ c' ≤ maxLen ∧ Below w.heap.size w w' := by
  obtain ⟨i0, hi, hz0, hz1, hz2⟩ := info_parts info_kT
  obtain ⟨cur, hcs, hmk⟩ := make_fact (P := Try.prog) Try.underlying31 hi hz0 hz1 hz2 0 (by omega) (by omega) w
  have hmk' : (Instr.makeSlice 31 (.int .i64 0) (.int .i64 0)).run Try.prog w = .ok (.slice (some ⟨w.heap.size, 0, none⟩) 0 0) (w.alloc (.cells cur 33)) := hmk
  clear hz0 hz1 hz2 hcs hmk
  have HI0 := Lib.hid hi
  clear hi
  go_enter Try.func75, Try.ntmps75
  go_wp2_with (go_at_call 94; refine (mul_10 _).mono ?_; rintro e w1 ⟨rfl, rfl⟩)
  rw [copy_none_any _ _ _ _ 33 _ _ _ _ _ _ Try.underlying31 HI0.out rfl]
  simp only [Result.andThen]
  rw [Oper.upon_value]
  clear hmk'
  go_wp2
  go_loopw [8] (fun n wr => n = .int .i64 0 ∧ wr = w.alloc (.cells cur 33)) (fun _ _ => 0)
  case atStart => exact ⟨rfl, rfl⟩
  case round =>
    obtain ⟨rfl, rfl⟩ := hrel
    go_wp2
    go_ret
    exact ⟨_, _, rfl, Nat.zero_le _, (Below.refl _ _).alloc (Nat.le_refl _) _⟩
theorem at_nil {α : Type} {f : α → List D} {size : Nat} {w : World} {S : Nat → Prop} {A : Option Addr} {c : Nat} (h : c ≤ maxLen) : D.At w S (rows f size ([] : List α)) (.slice A 0 c) := by
  unfold rows
  simp only [D.At]
  exact ⟨A, c, [], rfl, Nat.zero_le _, h, by simp, fun h => by simp at h, D.Ats.nil⟩
theorem at_one {y : Ty} {w : World} {S : Nat → Prop} {G : Nat} {t : TypeId} {cs : List Value} (hG : S G) (hb : Box w G t cs) (h : D.Ats w S y.ds cs) : D.At w S (rows Ty.ds 4 [y]) (.slice (some ⟨G, 0, none⟩) 1 1) := by
  have hl := h.length
  rw [Ty.len] at hl
  unfold rows
  simp only [D.At]
  refine ⟨_, 1, cs, rfl, Nat.le_refl _, by unfold maxLen; omega, by rw [hl]; rfl, fun _ => ⟨G, 0, rfl, hG, hb.lt, fun j u hu => ?_⟩, ?_⟩
  · rw [Nat.zero_add, hb.cell]; simpa using hu
  · simpa using h
set_option maxRecDepth 20000 in
theorem isUnit_v (k : Int) (n : ByteArray) (v v' : Value) (A A' : Option Addr) (m c m' c' : Nat) (hv : v = .slice A m c) (hv' : v' = .slice A' m' c') (w : World) : Calls Try.prog 77 #[.agg #[.int .i64 k, .string n, v, v']] w fun e w' => e = .returned (.bool (k == 1)) ∧ Below w.heap.size w w' := by
  subst hv hv'
  cases h : (k == 1)
  all_goals
    go_enter Try.func77, Try.ntmps77
    go_wp2
    go_ret
    exact ⟨rfl, (Below.refl _ _).alloc (Nat.le_refl _) _⟩
def unitC : List Value := [.int .i64 1, .string ⟨#[]⟩, .slice none 0 0, .slice none 0 0]
set_option maxRecDepth 20000 in
theorem caseType_13 (n : ByteArray) (A A' : Option Addr) (m c m' c' : Nat) (w : World) : Calls Try.prog 76 #[.agg #[.int .i64 13, .string n, .slice A m c, .slice A' m' c'], .int .i64 0] w fun e w' =>
    e = .returned (.tuple #[.agg #[.int .i64 1, .string ⟨#[]⟩, .slice none 0 0, .slice none 0 0], .bool true]) ∧ Below w.heap.size w w' := by
  go_enter Try.func76, Try.ntmps76
  go_wp2
  exact bodyPost_ret (v := .tuple #[.agg #[.int .i64 1, .string ⟨#[]⟩, .slice none 0 0, .slice none 0 0], .bool true]) (by simp [results, Try.results76, go_sem]) rfl ⟨rfl, (by repeat (first | exact Below.refl _ _ | with_reducible refine Below.setCell ?_ (by simp <;> omega) _ | refine Below.alloc ?_ (by first | omega | (simp <;> omega)) _))⟩
set_option maxRecDepth 20000 in
theorem caseType_0 {S : Nat → Prop} (k : Int) (n : ByteArray) (l : List ByteArray) (kids : List Ty) (A A' : Option Addr) (c c' : Nat) (w : World) (g13 : (k == 13) = false) (y : Ty) (hy : kids[0]? = some y) (hv : D.At w S (rows Ty.ds 4 kids) (.slice A' kids.length c')) :
    Calls Try.prog 76 #[.agg #[.int .i64 k, .string n, .slice A l.length c, .slice A' kids.length c'], .int .i64 0] w fun e w' => ∃ cs, e = .returned (.tuple #[.agg cs.toArray, .bool true]) ∧ D.Ats w S y.ds cs ∧ Below w.heap.size w w' := by
  have hpos : 0 < kids.length := (List.getElem?_eq_some_iff.1 hy).1
  obtain ⟨-, hnk, hck⟩ := rows_bound hv
  unfold maxLen at hck
  have hk1 : (0 : Int) < (kids.length : Int) := by omega
  have hin : inR 0 0 ((kids.length : Int) - 1) = true := inR_iff.2 ⟨by omega, by omega⟩
  obtain ⟨b, off, u0, u1, u2, u3, e, -, hbl, hat, d0, d1, d2, d3⟩ := rows_at4 Ty.len hv hy
  subst e
  simp only [Nat.zero_mul, Nat.add_zero] at d0 d1 d2 d3
  obtain ⟨f0, f1, f2, f3, f4, f5, f6, f7, exx⟩ := Ty.form hat
  simp only [List.cons.injEq, and_true] at exx
  obtain ⟨rfl, rfl, rfl, rfl⟩ := exx
  have HA := Lib.hid hat
  have HIN := Lib.hid hin
  clear hy hv hat hin
  go_enter Try.func76, Try.ntmps76
  go_wp2_with fail
  refine (sizeT_any _ _ _ _).mono ?_
  rintro e w1 ⟨rfl, rfl⟩
  go_wp2_with fail
  refine (within_any _ _ _ _).mono ?_
  rintro e w2 ⟨rfl, rfl⟩
  rw [HIN.out]
  go_wp2
  exact bodyPost_ret (v := .tuple #[.agg #[.int .i64 f0, .string f1, .slice f2 f3 f4, .slice f5 f6 f7], .bool true]) (by simp [results, Try.results76, go_sem]) rfl ⟨[.int .i64 f0, .string f1, .slice f2 f3 f4, .slice f5 f6 f7], rfl, HA.out, (by repeat (first | exact Below.refl _ _ | with_reducible refine Below.setCell ?_ (by simp <;> omega) _ | refine Below.alloc ?_ (by first | omega | (simp <;> omega)) _))⟩
def RetKids (S : Nat → Prop) (L : List Ty) (w : World) (e : Ending) (w' : World) : Prop := ∃ A c, e = .returned (.tuple #[.slice A L.length c, .bool true]) ∧ D.At w' S (rows Ty.ds 4 L) (.slice A L.length c) ∧ Below w.heap.size w w'
theorem kids_one {n : ByteArray} {l : List ByteArray} {kids : List Ty} (h : shape (.mk 12 n l kids) = true) : kids.length = 1 := by
  have := (shape_fit h).1
  rw [kf1 (.inl rfl)] at this
  simp only [Bool.and_eq_true, beq_iff_eq] at this
  exact this.1
set_option maxHeartbeats 4000000 in
set_option maxRecDepth 20000 in
theorem kidTypes_0 {S : Nat → Prop} (k : Int) (n : ByteArray) (l : List ByteArray) (kids : List Ty) (A A' : Option Addr) (c c' : Nat) (w : World) (hs : shape (.mk k n l kids) = true) (hSS : ∀ b, w.heap.size ≤ b → S b) (hv : D.At w S (rows Ty.ds 4 kids) (.slice A' kids.length c')) :
    Calls Try.prog 56 #[.agg #[.int .i64 k, .int .i64 0, .string ⟨#[]⟩, .slice none 0 0], .agg #[.int .i64 k, .string n, .slice A l.length c, .slice A' kids.length c']] w (RetKids S (dts k kids) w) := by
  have HV := Lib.hid hv
  have HSS := Lib.hid hSS
  clear hv hSS
  by_cases h12 : k = 12
  · subst h12
    have HL := Lib.hid (dts_none (k := 12) (kids := kids) (by decide))
    have h1 := kids_one hs
    rw [h1]
    clear hs h1
    go_enter Try.func56, Try.ntmps56
    go_wp2_with fail
    refine (repeat_10 _ _ _).mono ?_
    rintro e w1 ⟨B, d, rfl, hd, hb⟩
    have HB := Lib.hid (show Below w.heap.size w w1 from Below.trans (by repeat (first | exact Below.refl _ _ | with_reducible refine Below.setCell ?_ (by simp <;> omega) _ | refine Below.alloc ?_ (by first | omega | (simp <;> omega)) _)) (hb.mono (by simp <;> omega)))
    clear hb
    go_wp2
    go_ret2
    rw [HL.out]
    exact ⟨_, _, rfl, at_nil hd, HB.out⟩
  by_cases h15 : k = 15 ∨ k = 16
  · have HL := Lib.hid (dts_all (kids := kids) h15)
    have g12 : (k == 12) = false := beq_eq_false_iff_ne.2 h12
    have g : (k == 15) = true ∨ ((k == 15) = false ∧ (k == 16) = true) := by rcases h15 with rfl | rfl <;> simp
    clear hs h15 h12
    rcases g with g15 | ⟨g15, g16⟩
    all_goals
      go_enter Try.func56, Try.ntmps56
      go_wp2
      go_ret2
      rw [HL.out]
      exact ⟨_, _, rfl, HV.out.below (by repeat (first | exact Below.refl _ _ | with_reducible refine Below.setCell ?_ (by simp <;> omega) _ | refine Below.alloc ?_ (by first | omega | (simp <;> omega)) _)), (by repeat (first | exact Below.refl _ _ | with_reducible refine Below.setCell ?_ (by simp <;> omega) _ | refine Below.alloc ?_ (by first | omega | (simp <;> omega)) _))⟩
  have g12 : (k == 12) = false := beq_eq_false_iff_ne.2 h12
  have g15 : (k == 15) = false := beq_eq_false_iff_ne.2 (by omega)
  have g16 : (k == 16) = false := beq_eq_false_iff_ne.2 (by omega)
  by_cases h13 : k = 13
  · subst h13
    have HL := Lib.hid (dts_none (k := 13) (kids := kids) (by decide))
    clear hs h12 h15 g12 g15 g16
    go_enter Try.func56, Try.ntmps56
    go_wp2_with fail
    refine (caseType_13 _ _ _ _ _ _ _ _).mono ?_
    rintro e w1 ⟨rfl, hb⟩
    have HB := Lib.hid (show Below w.heap.size w w1 from Below.trans (by repeat (first | exact Below.refl _ _ | with_reducible refine Below.setCell ?_ (by simp <;> omega) _ | refine Below.alloc ?_ (by first | omega | (simp <;> omega)) _)) (hb.mono (by simp <;> omega)))
    have hsz := HB.out.size
    clear hb
    go_wp2_with fail
    refine (isUnit_v 1 _ _ _ _ _ _ _ _ _ rfl rfl _).mono ?_
    rintro e w2 ⟨rfl, hb2⟩
    have HB2 := Lib.hid (show Below w.heap.size w w2 from (HB.out.alloc hsz _).trans (hb2.mono (by simp <;> omega)))
    clear hb2
    go_wp2
    go_ret2
    rw [HL.out]
    exact ⟨_, _, rfl, at_nil (Nat.zero_le _), HB2.out⟩
  have g13 : (k == 13) = false := beq_eq_false_iff_ne.2 h13
  by_cases h14 : k = 14 ∨ k = 17
  · have hpos := fit_pos hs h14
    obtain ⟨y, r, hr⟩ : ∃ y r, kids = y :: r := by
      cases kids with
      | nil => simp at hpos
      | cons z r => exact ⟨z, r, rfl⟩
    have hy : kids[0]? = some y := by rw [hr]; rfl
    have HD1 := Lib.hid (fun hu => (congrArg (dts k) hr).trans (dts_unit (r := r) (x := y) h14 hu))
    have HD2 := Lib.hid (fun hu => (congrArg (dts k) hr).trans (dts_one (r := r) (x := y) h14 hu))
    have HY := Lib.hid hy
    have HG := Lib.hid g13
    have g : (k == 14) = true ∨ ((k == 14) = false ∧ (k == 17) = true) := by rcases h14 with rfl | rfl <;> simp
    clear hs h12 h13 h14 h15 hpos hr hy
    rcases g with g14 | ⟨g14, g17⟩
    all_goals
      go_enter Try.func56, Try.ntmps56
      go_wp2_with fail
      refine (caseType_0 k n l kids A A' c c' _ HG.out y HY.out (HV.out.below (by repeat (first | exact Below.refl _ _ | with_reducible refine Below.setCell ?_ (by simp <;> omega) _ | refine Below.alloc ?_ (by first | omega | (simp <;> omega)) _)))).mono ?_
      rintro e w1 ⟨cs1, rfl, hat, hb⟩
      have HB := Lib.hid (show Below w.heap.size w w1 from Below.trans (by repeat (first | exact Below.refl _ _ | with_reducible refine Below.setCell ?_ (by simp <;> omega) _ | refine Below.alloc ?_ (by first | omega | (simp <;> omega)) _)) (hb.mono (by simp <;> omega)))
      have hsz := HB.out.size
      have hat1 := hat.below hb
      obtain ⟨yk, yn, yl, ykids⟩ := y
      obtain ⟨f2, f4, f5, f7, rfl, -⟩ := Ty.open_ hat1
      have HA := Lib.hid hat1
      clear hb hat hat1
      have bK := Box.new w1 33 [.int .i64 yk, .string yn, .slice f2 yl.length f4, .slice f5 ykids.length f7]
      go_wp2_with fail
      refine (isUnit_v yk _ _ _ _ _ _ _ _ _ rfl rfl _).mono ?_
      rintro e w2 ⟨rfl, hb2⟩
      have HB2 := Lib.hid (show Below w.heap.size w w2 from (HB.out.alloc hsz _).trans (hb2.mono (by simp <;> omega)))
      have bK2 := bK.call hb2
      have kK := bK2.cell
      have lK := bK2.lt
      have hs2 := HB2.out.size
      have HA2 := Lib.hid ((HA.out.below ((Below.refl _ _).alloc (Nat.le_refl _) _)).below hb2)
      clear hb2 bK
      cases hu : (yk == 1)
      · have HU := Lib.hid (HD2.out hu)
        clear hu
        go_wp2
        go_ret2
        rw [HU.out]
        exact ⟨_, _, rfl, at_one (HSS.out _ HB2.out.size) (Box.new w2 33 _) (HA2.out.below ((Below.refl _ _).alloc (Nat.le_refl _) _)), HB2.out.alloc hs2 _⟩
      · have HU := Lib.hid (HD1.out hu)
        clear hu
        go_wp2
        go_ret2
        rw [HU.out]
        exact ⟨_, _, rfl, at_nil (Nat.zero_le _), HB2.out⟩
  have g14 : (k == 14) = false := beq_eq_false_iff_ne.2 (by omega)
  have g17 : (k == 17) = false := beq_eq_false_iff_ne.2 (by omega)
  have HL := Lib.hid (dts_none (k := k) (kids := kids) (by omega))
  clear hs h12 h13 h14 h15
  go_enter Try.func56, Try.ntmps56
  go_wp2
  go_ret2
  rw [HL.out]
  exact ⟨_, _, rfl, at_nil (Nat.zero_le _), (by repeat (first | exact Below.refl _ _ | with_reducible refine Below.setCell ?_ (by simp <;> omega) _ | refine Below.alloc ?_ (by first | omega | (simp <;> omega)) _))⟩
theorem dts_len {k : Int} {n : ByteArray} {l : List ByteArray} {kids : List Ty} (h : shape (.mk k n l kids) = true) : (dts k kids).length ≤ 16 := by
  by_cases h15 : k = 15 ∨ k = 16
  · rw [dts_all h15]; exact fit_len h h15
  · unfold dts
    rw [if_neg h15]
    split
    · cases kids with
      | nil => simp
      | cons y r => simp only; split <;> simp
    · simp
set_option maxHeartbeats 4000000 in
set_option maxRecDepth 20000 in
theorem defaultOf_i (x : Ty) : DefTo 42 x := by
  refine Ty.ind (fun k n l kids ih => ?_) x
  intro hall cs w hcs
  obtain ⟨A, c, A', c', rfl, hk, hn, hl, hkids⟩ := Ty.open_ hcs
  obtain ⟨-, hnk, hck⟩ := rows_bound hkids
  unfold maxLen at hck
  have HK := Lib.hid hk
  have HSH := Lib.hid (all_shape hall)
  have HI := Lib.hid ih
  obtain ⟨j0, hj, hy0, hy1, hy2⟩ := info_parts info_tV
  have HJ := Lib.hid (And.intro hj (And.intro hy0 (And.intro hy1 hy2)))
  obtain ⟨w0, hw0⟩ : ∃ w0, w0 = (w.alloc (.cells #[.int .i64 k, .string n, .slice A l.length c, .slice A' kids.length c'] 33)).alloc (.cells #[.int .i64 0, .int .i64 0, .string ⟨#[]⟩, .slice none 0 0] 42) := ⟨_, rfl⟩
  have bA0 : Box w0 w.heap.size 33 [.int .i64 k, .string n, .slice A l.length c, .slice A' kids.length c'] := by rw [hw0]; exact (Box.new w _ _).alloc _
  have bR0 : Box w0 (w.heap.size + 1) 42 [.int .i64 0, .int .i64 0, .string ⟨#[]⟩, .slice none 0 0] := by rw [hw0]; have := Box.new (w.alloc (.cells #[.int .i64 k, .string n, .slice A l.length c, .slice A' kids.length c'] 33)) 42 [.int .i64 0, .int .i64 0, .string ⟨#[]⟩, .slice none 0 0]; simpa using this
  have B0 : Below w.heap.size w w0 := by rw [hw0]; exact ((Below.refl _ _).alloc (Nat.le_refl _) _).alloc (by simp) _
  have HS0 := Lib.hid (show w0.heap.size = w.heap.size + 2 by rw [hw0]; simp)
  have HV := Lib.hid (D.At.below hkids B0)
  have HB1 := Lib.hid (And.intro B0 (And.intro bA0 bR0))
  have zA := bA0.lt
  have zR := bR0.lt
  obtain ⟨W1, hW1⟩ : ∃ W1, W1 = w0.alloc (.cells #[.int .i64 k, .int .i64 0, .string ⟨#[]⟩, .slice none 0 0] 42) := ⟨_, rfl⟩
  obtain ⟨g, hgE⟩ : ∃ g, g = w0.heap.size := ⟨_, rfl⟩
  have bG1 : Box W1 g 42 [.int .i64 k, .int .i64 0, .string ⟨#[]⟩, .slice none 0 0] := by rw [hW1, hgE]; exact Box.new w0 _ _
  have hg : w0.heap.size ≤ g := by omega
  have hgl := bG1.lt
  have HGE := Lib.hid hgE
  have B1 : Below w0.heap.size w0 W1 := by rw [hW1]; exact (Below.refl _ _).alloc (Nat.le_refl _) _
  have hs1 : w0.heap.size ≤ W1.heap.size := by rw [hW1]; simp
  have HG := Lib.hid bG1
  have HB1' := Lib.hid B1
  have bA1 := bA0.call B1
  have kA := bA1.cell
  have kA0 := bA0.cell
  have lA := bA1.lt
  clear hcs hk hn hl hkids ih hall hj hy0 hy1 hy2 bR0 bG1 B0 B1 bA1 hgE
  change Calls Try.prog 42 #[.agg #[.int .i64 k, .string n, .slice A l.length c, .slice A' kids.length c']] w _
  go_enter Try.func42, Try.ntmps42
  go_upto_region 2 with fail
  rw [← hw0, ← hW1, show w.heap.size + 1 + 1 = g by rw [HGE.out, HS0.out]]
  clear kA0 bA0 hW1 hw0
  obtain ⟨L, hL⟩ : ∃ L, dts k kids = L := ⟨_, rfl⟩
  have hL16 : L.length ≤ 16 := by rw [← hL]; exact dts_len HSH.out.1
  have HLM := Lib.hid (show ∀ x ∈ L, x ∈ kids from fun x hx => dts_mem (by rw [hL]; exact hx))
  have hkt := kidTypes_0 (S := fun b => b ≠ g) k n l kids A A' c c' W1 HSH.out.1 (fun b hb => by omega) (D.At.keep (S' := fun b => b ≠ g) (fun b h1 _ => ⟨HB1'.out.block b h1, by omega, by omega⟩) _ _ HV.out)
  rw [hL] at hkt
  have HKT := Lib.hid hkt
  have HL := Lib.hid hL
  have kG0 := HG.out.cell
  have lG0 := HG.out.lt
  clear hL hkt
  go_wp2_with fail
  refine HKT.out.mono ?_
  rintro e w2 ⟨A5, c5, rfl, hat, hb2⟩
  obtain ⟨-, hn5, hc5⟩ := rows_bound hat
  unfold maxLen at hc5
  have HV2 := Lib.hid hat
  have HG2 := Lib.hid (HG.out.call hb2)
  have HB2 := Lib.hid (HB1'.out.trans (hb2.mono hs1))
  have hs12 := hb2.size
  replace hs1 : w0.heap.size ≤ w2.heap.size := by omega
  replace hgl : g < w2.heap.size := by omega
  clear hat hb2 kG0 lG0 kA lA hs12
  go_wp2
  go_loopw [19] (fun i wr => ∃ (q : Nat) (vK : Value), q ≤ L.length ∧ i = .int .i64 q ∧ Box wr g 42 [.int .i64 k, .int .i64 0, .string ⟨#[]⟩, vK] ∧ OwnP wr w2.heap.size 42 4 vK q ((L.take q).flatMap dD) ∧ (∀ b, b < w2.heap.size → b ≠ g → wr.heap[b]? = w2.heap[b]?) ∧ Below w0.heap.size w0 wr) (fun i _ => L.length - (intOf i).toNat)
  case atStart => exact ⟨0, _, Nat.zero_le _, rfl, HG2.out, OwnP.nil (Nat.le_refl _), fun _ _ _ => rfl, HB2.out⟩
  case round =>
    obtain ⟨q, vK, hq, rfl, bG, hO, hkp, hb⟩ := hrel
    obtain ⟨AK, cK, rfl⟩ := hO.form
    have lG := bG.lt
    by_cases hlt : q < L.length
    · obtain ⟨x, hx⟩ : ∃ x, L[q]? = some x := ⟨L[q], List.getElem?_eq_getElem hlt⟩
      have hk0 : (0 : Int) ≤ (q : Int) := by omega
      have hk1 : (q : Int) < (L.length : Int) := by omega
      have hbs := hO.base_le
      obtain ⟨b, off, u0, u1, u2, u3, e, -, hbl, hat, d0, d1, d2, d3⟩ := rows_at4 Ty.len (D.At.keep (w' := wr) (S' := fun b => b ≠ g) (fun b h1 h2 => ⟨hkp b h1 h2, h2, by omega⟩) _ _ HV2.out) hx
      subst e
      obtain ⟨f0, f1, f2, f3, f4, f5, f6, f7, exx⟩ := Ty.form hat
      simp only [List.cons.injEq, and_true] at exx
      obtain ⟨rfl, rfl, rfl, rfl⟩ := exx
      have hxm := HLM.out x (List.mem_of_getElem? hx)
      have hWW : Below wr.heap.size wr (wr.alloc (.cells #[.int .i64 f0, .string f1, .slice f2 f3 f4, .slice f5 f6 f7] 33)).drew := ((Below.refl _ wr).alloc (Nat.le_refl _) _).drew
      have HC := Lib.hid (HI.out x hxm (HSH.out.2 x hxm) _ (wr.alloc (.cells #[.int .i64 f0, .string f1, .slice f2 f3 f4, .slice f5 f6 f7] 33)).drew ((hat.weaken (S' := anyB) (fun _ _ => trivial)).below hWW))
      have hOd := hO.below hWW
      have bGd : Box (wr.alloc (.cells #[.int .i64 f0, .string f1, .slice f2 f3 f4, .slice f5 f6 f7] 33)).drew g 42 [.int .i64 k, .int .i64 0, .string ⟨#[]⟩, .slice AK q cK] := bG.call hWW
      have HN := Lib.hid (take_next (f := dD) hx)
      have HKP := Lib.hid (hb.trans (hWW.mono hb.size))
      have HKW := Lib.hid (show ∀ b, b < w2.heap.size → b ≠ g → ((wr.alloc (.cells #[.int .i64 f0, .string f1, .slice f2 f3 f4, .slice f5 f6 f7] 33)).drew).heap[b]? = w2.heap[b]? from fun b h1 h2 => (hWW.block b (by omega)).trans (hkp b h1 h2))
      have kA := True.intro
      have kG := bG.cell
      clear hx hxm hat hO bG hb hkp hWW hbs
      go_upto_region 6 with fail
      go_region_law (first
        | (go_simp; go_at_call 42; ((refine HC.out.mono ?_); rintro e w3 ⟨cs3, rfl, hs3, hb3⟩; obtain ⟨z0, z1, z2, z3, z4, z5, rfl⟩ := Va.form hs3.ats; have bG3 := Box.call (w := (wr.alloc (.cells #[.int .i64 f0, .string f1, .slice f2 f3 f4, .slice f5 f6 f7] 33)).drew) bGd hb3; have c9 := bG3.cell; have l9 := bG3.lt))
        | ((with_reducible refine at_world (w3.alloc (.cells #[.int .i64 z0, .int .i64 z1, .string z2, .slice z3 z4 z5] 42)) ?_); refine step_ownP (vs := [.int .i64 z0, .int .i64 z1, .string z2, .slice z3 z4 z5]) hOd hb3 hs3 (.tmp 24) (.tmp 27) Try.underlying40 HJ.out.1 HJ.out.2.1 HJ.out.2.2.1 HJ.out.2.2.2 rfl (by decide) rfl (by simp [Value.oneCell']) (by unfold maxLen; omega) (by omega) ?_; intro v' w' ho' hb'; obtain ⟨A2, c2, rfl⟩ := ho'.form; have bG2 : Box w' g 42 [.int .i64 k, .int .i64 0, .string ⟨#[]⟩, .slice AK q cK] := (hb'.block g hgl).trans bGd; have cg := bG2.cell; have fg := bG2.frozen; have lg := bG2.lt))
      all_goals
        have HON := Lib.hid (ho'.set (p := ⟨g, 3, none⟩) hgl (.slice A2 (q + 1) c2))
        have HBN := Lib.hid (show Box (w'.setCell ⟨g, 3, none⟩ (.slice A2 (q + 1) c2)) g 42 [.int .i64 k, .int .i64 0, .string ⟨#[]⟩, .slice A2 (q + 1) c2] from bG2.set 3 _)
        have HWN := Lib.hid (show Below w0.heap.size w0 (w'.setCell ⟨g, 3, none⟩ (.slice A2 (q + 1) c2)) from (HKP.out.trans (hb'.mono hs1)).setCell hg _)
        have HKN := Lib.hid (show ∀ b, b < w2.heap.size → b ≠ g → (w'.setCell ⟨g, 3, none⟩ (.slice A2 (q + 1) c2)).heap[b]? = w2.heap[b]? from fun b h1 h2 => ((Below.heap_setCell _ _ _ _ h2).trans (hb'.block b h1)).trans (HKW.out b h1 h2))
        clear kA kG d0 d1 d2 d3 cg fg lg bG2 bGd hOd ho' hb'
        go_wp2
        go_roundw
        case rel => exact ⟨q + 1, _, by omega, by go_num, HBN.out, by rw [HN.out]; exact HON.out, HKN.out, HWN.out⟩
        case measure => simp [intOf]; omega
    · obtain rfl : q = L.length := by omega
      have hD := hO.done (fun h0 => by rw [List.take_length, List.eq_nil_of_length_eq_zero h0]; rfl)
      rw [List.take_length] at hD
      have HD := Lib.hid hD
      have HWE := Lib.hid hb
      have HBE := Lib.hid bG
      clear hD hO hb bG hkp
      have bR : Box wr (w.heap.size + 1) 42 [.int .i64 0, .int .i64 0, .string ⟨#[]⟩, .slice none 0 0] := (HWE.out.block _ zR).trans HB1.out.2.2
      have kG := HBE.out.cell
      have lG := HBE.out.lt
      have kR := bR.cell
      have fR := bR.frozen
      have lR := bR.lt
      go_wp2
      refine bodyPost_ret (v := .agg #[.int .i64 k, .int .i64 0, .string ⟨#[]⟩, .slice AK L.length cK]) (by simp [results, Try.results42, go_sem, kR]) rfl ⟨[.int .i64 k, .int .i64 0, .string ⟨#[]⟩, .slice AK L.length cK], rfl, ?_, ?_⟩
      · refine dflt_end (w := wr) (B := w2.heap.size) HK.out HL.out (by have := HS0.out; omega) HD.out (by simp [World.setCell]) (fun b hb => ?_)
        have hne : b ≠ w.heap.size + 1 := by have := HS0.out; omega
        rw [Below.heap_setCell _ _ _ _ hne, Below.heap_setCell _ _ _ _ hne, Below.heap_setCell _ _ _ _ hne, Below.heap_setCell _ _ _ _ hne]
      · have := HB1.out.1.trans (HWE.out.mono HB1.out.1.size)
        with_reducible refine Below.setCell (Below.setCell (Below.setCell (Below.setCell ?_ ?_ _) ?_ _) ?_ _) ?_ _
        · exact this
        all_goals exact Nat.le_succ _
end Go.Proofs.Ytnfkdncfbojiiaa
