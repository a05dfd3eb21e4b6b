/- Tokens: by the program: where a word ends. -/
import Derived.Test.YtofihcahimdbhaaTokX
namespace Go.Proofs.Ytofihcahimdbhaa
open Go.RowKit Go.PlainAid

theorem wordAt_or (s : ByteArray) (k : Nat) : wordAt s k = ((digB (bt s k) || letB (bt s k)) || ((bt s k == 45) && (letB (byteOr s (k + 1)) || digB (byteOr s (k + 1))))) := by
  unfold wordAt alnB byteOr
  by_cases h : k + 1 < s.size
  · rw [if_pos h, decide_eq_true h, Bool.true_and, Bool.or_comm (letB (bt s k))]
  · rw [if_neg h, decide_eq_false h, Bool.false_and, Bool.or_comm (letB (bt s k))]; rfl
theorem numAt_or (s : ByteArray) (k : Nat) : numAt s k = (digB (bt s k) || ((bt s k == 46) && digB (byteOr s (k + 1)))) := by
  unfold numAt byteOr
  by_cases h : k + 1 < s.size
  · rw [if_pos h, decide_eq_true h, Bool.true_and]
  · rw [if_neg h, decide_eq_false h, Bool.false_and]; rfl
theorem byteAt_q (s : ByteArray) (k : Nat) (z : Int) (hz : z = ((k + 1 : Nat) : Int)) (b : Nat) (a l v : Value) (t : TypeId) (w : World) (hw : Box w b t [.string s, a, l, v]) :
    Calls Try.prog 27 #[.pointer (some ⟨b, 0, none⟩), .int .i64 z] w fun e w' => e = .returned (.int .u8 (byteOr s (k + 1))) ∧ w' = w := by
  subst hz
  exact (byteAt_i s (k + 1) b a l v t (0, 0) w hw).mono fun _ _ ⟨h1, h2⟩ => ⟨h1, h2.symm⟩
/-- What belongs to a token that begins with a letter, or with a digit. -/
def inAt (wd : Bool) (s : ByteArray) (k : Nat) : Bool := if wd = true then wordAt s k else numAt s k
theorem in_ways (s : ByteArray) (k : Nat) (wd : Bool) : (inAt wd s k = ((digB (bt s k) || (wd && letB (bt s k))) || ((wd && ((bt s k == 45) && (letB (byteOr s (k + 1)) || digB (byteOr s (k + 1))))) || (!wd && ((bt s k == 46) && digB (byteOr s (k + 1))))))) := by
  cases wd
  · show numAt s k = _
    rw [numAt_or]; simp
  · show wordAt s k = _
    rw [wordAt_or]; simp
def RetEnd (s : ByteArray) (wd : Bool) (i : Nat) (w : World) (e : Ending) (w' : World) : Prop := e = .returned (.int .i64 ((scan (inAt wd s) s.size i : Nat) : Int)) ∧ ∃ n, w' = w.drewN n
set_option maxHeartbeats 4000000 in
set_option maxRecDepth 20000 in
theorem wordEnd_i (s : ByteArray) (hs : s.size ≤ 1048576) (wd : Bool) (i : Nat) (hi : i < s.size) (hwd : letB (bt s i) = wd) (hin : inAt wd s i = true) (b : Nat) (a l v : Value) (w : World) (hw : Box w b 30 [.string s, a, l, v]) :
    Calls Try.prog 18 #[.pointer (some ⟨b, 0, none⟩), .int .i64 i] w (RetEnd s wd i w) := by
  have hbt := get_bt s
  have h0 : (0 : Int) ≤ (i : Int) := by omega
  have h1 : (i : Int) < (s.size : Int) := by omega
  have HS0 := Lib.hid (scan_yes (p := inAt wd s) hi hin)
  have HB := Lib.hid (fun n => hw.drewN n)
  obtain ⟨c0, -, -, -⟩ := lexer_cells hw
  obtain ⟨R, hR⟩ : ∃ R, scan (inAt wd s) s.size i = R := ⟨_, rfl⟩
  unfold RetEnd
  rw [hR] at HS0 ⊢
  clear hR hw hin
  go_enter Try.func18, Try.ntmps18
  go_wp2_with (go_at_call 17; ((with_reducible refine (letter_i (bt s i) _).mono ?_); rintro e w1 ⟨rfl, rfl⟩; rw [hwd]))
  clear hwd
  go_loopw [1] (fun j wr => ∃ k : Nat, k ≤ s.size ∧ j = .int .i64 k ∧ R = scan (inAt wd s) s.size k ∧ ∃ n, wr = w.drewN n) (fun j _ => s.size - (intOf j).toNat)
  case atStart => exact ⟨i + 1, by omega, by go_num, HS0.out, 0, rfl⟩
  case round =>
    obtain ⟨k, hk, rfl, hsc, n0, rfl⟩ := hrel
    have HSC := Lib.hid hsc
    clear hsc
    by_cases hlt : k < s.size
    · have i0 : (0 : Int) ≤ (k : Int) := by omega
      have i1 : (k : Int) < (s.size : Int) := by omega
      have HY := Lib.hid (fun h : inAt wd s k = true => HSC.out.trans (scan_yes hlt h))
      have HN := Lib.hid (fun h : inAt wd s k = false => HSC.out.trans (scan_no hlt h))
      have HW := Lib.hid (in_ways s k wd)
      have HBY := Lib.hid (fun (z : Int) (hz : z = ((k + 1 : Nat) : Int)) n => byteAt_q s k z hz b a l v 30 (w.drewN n) (HB.out n))
      obtain ⟨nx, hnx⟩ : ∃ nx, byteOr s (k + 1) = nx := ⟨_, rfl⟩
      obtain ⟨c, hc⟩ : ∃ c, bt s k = c := ⟨_, rfl⟩
      rw [hnx] at HBY
      rw [hnx, hc] at HW
      have hc' : ∀ h : k < s.size, (s[k].toNat : Int) = c := fun h => by rw [hbt k h, hc]
      clear hnx
      go_upto_region 5 with fail
      go_quiet ((go_at_call 27; exact quiet_same2 (HBY.out _ (by omega) _)))
      cases wd
      · have HW2 := Lib.hid (show inAt false s k = (digB c || ((c == 46) && digB nx)) by rw [HW.out]; simp)
        cases hd : digB c <;> cases h46 : (c == 46) <;> cases hd2 : digB nx
        all_goals
          have HV := Lib.hid (HW2.out.trans (by rw [hd, h46, hd2]))
          go_wp2_with (first
            | (go_at_call 19; ((with_reducible refine (digit_i c _).mono ?_); rintro e w1 ⟨rfl, rfl⟩; rw [hd]))
            | (go_at_call 19; ((with_reducible refine (digit_i nx _).mono ?_); rintro e w1 ⟨rfl, rfl⟩; rw [hd2])))
          first
            | (go_ret; exact ⟨ret_eq (by rw [HN.out HV.out]; try rfl), _, rfl⟩)
            | (go_roundw; (case rel => exact ⟨k + 1, by omega, by go_num, HY.out HV.out, _, rfl⟩); (case measure => simp [intOf]; omega))
      · have HW2 := Lib.hid (show inAt true s k = ((digB c || letB c) || ((c == 45) && (letB nx || digB nx))) by rw [HW.out]; simp)
        cases hd : digB c <;> cases hl : letB c <;> cases h45 : (c == 45) <;> cases hd2 : digB nx <;> cases hl2 : letB nx
        all_goals
          have HV := Lib.hid (HW2.out.trans (by rw [hd, hl, h45, hl2, hd2]))
          go_wp2_with (first
            | (go_at_call 19; ((with_reducible refine (digit_i c _).mono ?_); rintro e w1 ⟨rfl, rfl⟩; rw [hd]))
            | (go_at_call 17; ((with_reducible refine (letter_i c _).mono ?_); rintro e w1 ⟨rfl, rfl⟩; rw [hl]))
            | (go_at_call 17; ((with_reducible refine (letter_i nx _).mono ?_); rintro e w1 ⟨rfl, rfl⟩; rw [hl2]))
            | (go_at_call 19; ((with_reducible refine (digit_i nx _).mono ?_); rintro e w1 ⟨rfl, rfl⟩; rw [hd2])))
          first
            | (go_ret; exact ⟨ret_eq (by rw [HN.out HV.out]; try rfl), _, rfl⟩)
            | (go_roundw; (case rel => exact ⟨k + 1, by omega, by go_num, HY.out HV.out, _, rfl⟩); (case measure => simp [intOf]; omega))
    · have HV := Lib.hid (show R = k by rw [HSC.out, scan_stop hlt])
      go_wp2
      go_ret
      exact ⟨ret_eq (by rw [HV.out]; try rfl), _, rfl⟩
end Go.Proofs.Ytofihcahimdbhaa
