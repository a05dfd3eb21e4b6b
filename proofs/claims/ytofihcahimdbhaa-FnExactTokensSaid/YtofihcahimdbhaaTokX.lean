/- Tokens: by the program: white space is passed, where a word ends. -/
import Derived.Test.YtofihcahimdbhaaTokW
import Derived.Test.YtofihcahimdbhaaShelf
import Derived.Test.YtofihcahimdbhaaTree
import Derived.Deep.QuietTactic
import Derived.BigQuiet
namespace Go.Proofs.Ytofihcahimdbhaa
open Go.RowKit Go.PlainAid

/-- Only block b is turned. -/
def Only (b : Nat) (w w' : World) : Prop := Below b w w' ∧ w'.heap.size = w.heap.size ∧ ∀ c, c ≠ b → w'.heap[c]? = w.heap[c]?
theorem Only.refl (b : Nat) (w : World) : Only b w w := ⟨Below.refl _ _, rfl, fun _ _ => rfl⟩
theorem Only.set {b : Nat} {w w' : World} (h : Only b w w') (o : Nat) (v : Value) : Only b w (w'.setCell ⟨b, o, none⟩ v) :=
  ⟨h.1.setCell (p := ⟨b, o, none⟩) (Nat.le_refl _) _, by simp [World.setCell]; exact h.2.1, fun c hc => (Below.heap_setCell _ _ _ _ hc).trans (h.2.2 c hc)⟩
theorem Only.drewN {b : Nat} {w w' : World} (h : Only b w w') (n : Nat) : Only b w (w'.drewN n) := ⟨below_drewN h.1 n, h.2.1, h.2.2⟩
theorem Box.drewN {w : World} {g : Nat} {t : TypeId} {cs : List Value} (h : Box w g t cs) (n : Nat) : Box (w.drewN n) g t cs := h
theorem Only.trans {b : Nat} {w w1 w2 : World} (h : Only b w w1) (k : Only b w1 w2) : Only b w w2 := ⟨h.1.trans k.1, k.2.1.trans h.2.1, fun c hc => (k.2.2 c hc).trans (h.2.2 c hc)⟩
/-- A text begins with two bytes. -/
theorem pre_two (s : ByteArray) (i : Nat) (h : i < s.size) (c d : UInt8) :
    Lib.hasPrefix (s.extract i s.size).data.toList [c, d] = ((bt s i == (c.toNat : Int)) && (decide (i + 1 < s.size) && (bt s (i + 1) == (d.toNat : Int)))) := by
  have e : (s.extract i s.size).data.toList = s.data.toList.drop i := by
    simp only [ByteArray.data_extract, Array.toList_extract, List.extract_eq_take_drop]
    rw [List.take_of_length_le (by rw [List.length_drop, ← Lib.size_eq]; exact Nat.le_refl _)]
  have l0 : i < s.data.toList.length := by rw [← Lib.size_eq]; exact h
  have b0 : bt s i = ((s.data.toList[i]'l0).toNat : Int) := by
    rw [← get_bt s i h]
    exact congrArg (fun u : UInt8 => (u.toNat : Int)) (Array.getElem_toList (xs := s.data) (i := i) h).symm
  have q : ∀ (x y : UInt8), ((x.toNat : Int) == (y.toNat : Int)) = (y == x) := fun x y => by
    rw [Bool.eq_iff_iff, beq_iff_eq, beq_iff_eq]
    exact ⟨fun h => (UInt8.toNat_inj.1 (by omega)), fun h => by rw [h]⟩
  rw [e, List.drop_eq_getElem_cons l0, b0]
  by_cases h1 : i + 1 < s.size
  · have l1 : i + 1 < s.data.toList.length := by rw [← Lib.size_eq]; exact h1
    have b1 : bt s (i + 1) = ((s.data.toList[i + 1]'l1).toNat : Int) := by
      rw [← get_bt s (i + 1) h1]
      exact congrArg (fun u : UInt8 => (u.toNat : Int)) (Array.getElem_toList (xs := s.data) (i := i + 1) h1).symm
    rw [List.drop_eq_getElem_cons l1, b1, q, q]
    simp only [Lib.hasPrefix, List.isPrefixOf, Array.getElem_toList, h1, decide_true, Bool.true_and, Bool.and_true]
  · rw [List.drop_eq_nil_of_le (by rw [← Lib.size_eq]; omega), q]
    simp [Lib.hasPrefix, List.isPrefixOf, h1]
theorem lexer_cells {w : World} {b : Nat} {t : TypeId} {x y z v : Value} (h : Box w b t [x, y, z, v]) : w.cell? ⟨b, 0, none⟩ = some x ∧ w.cell? ⟨b, 1, none⟩ = some y ∧ w.cell? ⟨b, 2, none⟩ = some z ∧ w.cell? ⟨b, 3, none⟩ = some v :=
  ⟨by rw [h.cell]; rfl, by rw [h.cell]; rfl, by rw [h.cell]; rfl, by rw [h.cell]; rfl⟩
/-- The place that a lexer's block tells. -/
def atOf (w : World) (b : Nat) : Nat := match w.cell? ⟨b, 1, none⟩ with | some (.int _ n) => n.toNat | _ => 0
theorem atOf_box {w : World} {b : Nat} {t : TypeId} {x y v : Value} {k : Nat} (h : Box w b t [x, .int .i64 (k : Int), y, v]) : atOf w b = k := by
  have := h.cell 1
  unfold atOf
  rw [this]
  simp
theorem pre_cmt (s : ByteArray) (k : Nat) (h : k < s.size) (W : World) : Calls Try.prog 16 #[.string (s.extract k s.size), .string ⟨#[47, 47]⟩] W fun e w' => e = .returned (.bool (cmtAt s k)) ∧ w' = W := by
  have e : Lib.hasPrefix (s.extract k s.size).data.toList [47, 47] = cmtAt s k := pre_two s k h 47 47
  rw [← e]
  exact Try.strings_HasPrefix _ _ W
theorem pre_arr (s : ByteArray) (k : Nat) (h : k < s.size) (W : World) : Calls Try.prog 16 #[.string (s.extract k s.size), .string ⟨#[45, 62]⟩] W fun e w' => e = .returned (.bool (arrAt s k)) ∧ w' = W := by
  have e : Lib.hasPrefix (s.extract k s.size).data.toList [45, 62] = arrAt s k := pre_two s k h 45 62
  rw [← e]
  exact Try.strings_HasPrefix _ _ W
theorem quiet_same2 {P : Program} {f : FuncId} {args : Array Value} {w : World} {c n : Nat} {v : Value}
    (h : Calls P f args (w.drewN (c + n)) fun e w' => e = .returned v ∧ w' = w.drewN (c + n)) : Calls P f args (w.drewN (c + n)) fun e w'' => e = .returned v ∧ ∃ m, w'' = w.drewN (c + m) :=
  h.mono fun _ _ ⟨he, hm⟩ => ⟨he, n, hm⟩
def RetSk (s : ByteArray) (b i : Nat) (l : Int) (v : Value) (w : World) (e : Ending) (w' : World) : Prop := e = .returned (.tuple #[]) ∧ Box w' b 30 [.string s, .int .i64 ((skipT s i l).1 : Nat), .int .i64 (skipT s i l).2, v] ∧ Only b w w'
set_option maxHeartbeats 4000000 in
set_option maxRecDepth 20000 in
theorem skip_i (s : ByteArray) (hs : s.size ≤ 1048576) (i : Nat) (hi : i ≤ s.size) (l : Int) (hl : 0 ≤ l) (hl2 : l ≤ 1048577 + i) (b : Nat) (v : Value) (w : World) (hw : Box w b 30 [.string s, .int .i64 i, .int .i64 l, v]) :
    Calls Try.prog 10 #[.pointer (some ⟨b, 0, none⟩)] w (RetSk s b i l v w) := by
  have hbt := get_bt s
  obtain ⟨R, hR⟩ : ∃ R, skipT s i l = R := ⟨_, rfl⟩
  unfold RetSk
  rw [hR]
  go_enter Try.func10, Try.ntmps10
  go_wp2
  go_loopw [] (fun wr => ∃ (k : Nat) (q : Int), k ≤ s.size ∧ Box wr b 30 [.string s, .int .i64 k, .int .i64 q, v] ∧ Only b w wr ∧ 0 ≤ q ∧ q ≤ 1048577 + k ∧ skipT s k q = R) (fun wr => s.size - atOf wr b)
  case atStart => exact ⟨i, l, hi, hw, Only.refl _ _, hl, hl2, hR⟩
  case round =>
    obtain ⟨k, q, hk, hB, hO, hq0, hq1, hsc⟩ := hrel
    have HSC := Lib.hid hsc
    have HO := Lib.hid (fun n => hO.drewN n)
    have HB := Lib.hid (fun n => hB.drewN n)
    have HA := Lib.hid (atOf_box hB)
    obtain ⟨c0, c1, c2, c3⟩ := lexer_cells hB
    have fB := hB.frozen
    have lB := hB.lt
    clear hsc hO hB
    by_cases hlt : k < s.size
    · have h0 : (0 : Int) ≤ (k : Int) := by omega
      have h1 : (k : Int) < (s.size : Int) := by omega
      have h2 : (k : Int) ≤ (s.size : Int) := by omega
      have HST := Lib.hid (skipT_step (l := q) hlt)
      go_upto_region 0 with fail
      go_quiet (fail)
      go_upto_region 1 with fail
      go_quiet (fail)
      by_cases c10 : (bt s k == 10) = true
      · have HV := Lib.hid (show skipT s (k + 1) (q + 1) = R by rw [← HSC.out, HST.out, if_pos c10])
        go_wp2
        go_roundw
        case rel => exact ⟨k + 1, q + 1, by omega, ((HB.out _).set 2 (.int .i64 (q + 1))).set 1 (.int .i64 ((k : Int) + 1)), ((HO.out _).set 2 _).set 1 _, by omega, by omega, HV.out⟩
        case measure => rw [HA.out, atOf_box (k := k + 1) (((HB.out _).set 2 (.int .i64 (q + 1))).set 1 (.int .i64 ((k : Int) + 1)))]; omega
      · replace c10 : (bt s k == 10) = false := by simpa using c10
        by_cases c32 : (bt s k == 32) = true
        · have HV := Lib.hid (show skipT s (k + 1) q = R by rw [← HSC.out, HST.out, c10, c32]; rfl)
          go_wp2
          go_roundw
          case rel => exact ⟨k + 1, q, by omega, (HB.out _).set 1 (.int .i64 ((k : Int) + 1)), (HO.out _).set 1 _, by omega, by omega, HV.out⟩
          case measure => rw [HA.out, atOf_box (k := k + 1) ((HB.out _).set 1 (.int .i64 ((k : Int) + 1)))]; omega
        · replace c32 : (bt s k == 32) = false := by simpa using c32
          have HP := Lib.hid (pre_cmt s k hlt)
          cases hc : cmtAt s k
          · rw [hc] at HP
            have HV := Lib.hid (show (k, q) = R by rw [← HSC.out, HST.out, c10, c32, hc]; rfl)
            go_upto_region 7 with fail
            go_quiet ((go_at_call 16; exact quiet_same2 (HP.out _)))
            go_wp2
            exact bodyPost_ret (v := .tuple #[]) (by simp [results, Try.results10, go_sem]) rfl ⟨rfl, by rw [← HV.out]; exact (HB.out _).drewN _, (HO.out _).drewN _⟩
          · rw [hc] at HP
            have HV := Lib.hid (show skipT s (scan (lineAt s) s.size k) q = R by rw [← HSC.out, HST.out, c10, c32, hc]; rfl)
            have HCS := Lib.hid (cmt_scan hlt hc)
            clear hc
            go_upto_region 7 with fail
            go_quiet ((go_at_call 16; exact quiet_same2 (HP.out _)))
            go_wp2
            clear c0 c1 c2 c3 fB lB
            go_loopw [] (fun wx => ∃ j : Nat, k ≤ j ∧ j ≤ s.size ∧ Box wx b 30 [.string s, .int .i64 j, .int .i64 q, v] ∧ Only b w wx ∧ scan (lineAt s) s.size k = scan (lineAt s) s.size j) (fun wx => s.size - atOf wx b)
            case atStart => exact ⟨k, Nat.le_refl _, hk, (HB.out _).drewN _, (HO.out _).drewN _, rfl⟩
            case round =>
              obtain ⟨j, hkj, hj, hB, hO, hsj⟩ := hrel
              have HSJ := Lib.hid hsj
              have HO2 := Lib.hid (fun n => hO.drewN n)
              have HB2 := Lib.hid (fun n => hB.drewN n)
              have HA2 := Lib.hid (atOf_box hB)
              obtain ⟨c0, c1, c2, c3⟩ := lexer_cells hB
              have fB := hB.frozen
              have lB := hB.lt
              clear hsj hO hB
              by_cases hlj : j < s.size
              · have i0 : (0 : Int) ≤ (j : Int) := by omega
                have i1 : (j : Int) < (s.size : Int) := by omega
                cases h10 : (bt s j == 10)
                · have HL := Lib.hid (show scan (lineAt s) s.size k = scan (lineAt s) s.size (j + 1) by rw [HSJ.out, scan_yes hlj (show lineAt s j = true by unfold lineAt; rw [bne, h10]; rfl)])
                  have h10' : (bt s j != 10) = true := by rw [bne, h10]; rfl
                  go_upto_region 8 with fail
                  go_quiet (fail)
                  go_wp2
                  go_roundw
                  case rel => exact ⟨j + 1, by omega, by omega, (HB2.out _).set 1 (.int .i64 ((j : Int) + 1)), (HO2.out _).set 1 _, HL.out⟩
                  case measure => rw [HA2.out, atOf_box (k := j + 1) ((HB2.out _).set 1 (.int .i64 ((j : Int) + 1)))]; omega
                · have HL := Lib.hid (show scan (lineAt s) s.size k = j by rw [HSJ.out, scan_no hlj (show lineAt s j = false by unfold lineAt; rw [bne, h10]; rfl)])
                  have h10' : (bt s j != 10) = false := by rw [bne, h10]; rfl
                  go_upto_region 8 with fail
                  go_quiet (fail)
                  go_wp2
                  go_roundw
                  case rel => exact ⟨j, q, hj, HB2.out _, HO2.out _, hq0, by omega, by rw [← HV.out, HL.out]⟩
                  case measure => rw [HA.out, atOf_box (HB2.out _)]; have := HCS.out; rw [HL.out] at this; omega
              · have i1 : ¬ (j : Int) < (s.size : Int) := by omega
                have hd : decide ((j : Int) < (s.size : Int)) = false := decide_eq_false i1
                have HL := Lib.hid (show scan (lineAt s) s.size k = j by rw [HSJ.out, scan_stop hlj])
                go_upto_region 8 with fail
                go_quiet (fail)
                go_wp2
                go_roundw
                case rel => exact ⟨j, q, hj, HB2.out _, HO2.out _, hq0, by omega, by rw [← HV.out, HL.out]⟩
                case measure => rw [HA.out, atOf_box (HB2.out _)]; have := HCS.out; rw [HL.out] at this; omega
    · have HV := Lib.hid (show (k, q) = R by rw [← HSC.out, skipT_stop hlt])
      have h1 : ¬ (k : Int) < (s.size : Int) := by omega
      go_upto_region 0 with fail
      go_quiet (fail)
      go_wp2
      go_end0
      exact ⟨rfl, by rw [← HV.out]; exact HB.out _, HO.out _⟩
end Go.Proofs.Ytofihcahimdbhaa
