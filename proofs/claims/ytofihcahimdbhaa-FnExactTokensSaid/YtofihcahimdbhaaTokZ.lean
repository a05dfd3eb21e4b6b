/- Tokens: by the program: the token at a place. -/
import Derived.Test.YtofihcahimdbhaaTokY
import Derived.Test.YtofihcahimdbhaaTokT
namespace Go.Proofs.Ytofihcahimdbhaa
open Go.RowKit Go.PlainAid

theorem bt_lt (s : ByteArray) (k : Nat) (h : k < s.size) : 0 ≤ bt s k ∧ bt s k < 256 := by
  rw [← get_bt s k h]
  have := s[k].toNat_lt
  omega
theorem sign_index (c : Nat) (h : c < 256) : decide (0 ≤ Lib.indexByte sgT.data.toList ((c : Int).toNat.toUInt8)) = signB (c : Int) := by
  have : ∀ c : Fin 256, decide (0 ≤ Lib.indexByte sgT.data.toList (((c.val : Nat) : Int).toNat.toUInt8)) = signB ((c.val : Nat) : Int) := by decide +kernel
  exact this ⟨c, h⟩
theorem sign_i (c : Int) (h0 : 0 ≤ c) (h1 : c < 256) : ∃ z : Int, decide (0 ≤ z) = signB c ∧ ∀ W : World, Calls Try.prog 20 #[.string sgT, .int .u8 c] W fun e w' => e = .returned (.int .i64 z) ∧ w' = W := by
  obtain ⟨n, rfl⟩ : ∃ n : Nat, c = n := ⟨c.toNat, by omega⟩
  exact ⟨_, sign_index n (by omega), fun W => Try.strings_IndexByte _ _ W⟩
def RetNx (s : ByteArray) (i : Nat) (w : World) (e : Ending) (w' : World) : Prop := e = .returned (.tuple #[.int .i64 (lexK s i), .int .i64 ((lexE s i : Nat) : Int)]) ∧ ∃ n, w' = w.drewN n
theorem ret_nx {s : ByteArray} {i : Nat} {w w' : World} {E : Nat} {k x : Int} (hx : (E : Int) = x) (h : lexK s i = k ∧ lexE s i = E) (hw : ∃ n, w' = w.drewN n) : RetNx s i w (.returned (.tuple #[.int .i64 k, .int .i64 x])) w' := by
  obtain ⟨rfl, rfl⟩ := h
  subst hx
  exact ⟨rfl, hw⟩
theorem scan_word {s : ByteArray} {i : Nat} : scan (inAt true s) s.size i = scan (wordAt s) s.size i := rfl
theorem scan_num {s : ByteArray} {i : Nat} : scan (inAt false s) s.size i = scan (numAt s) s.size i := rfl
set_option maxHeartbeats 4000000 in
set_option maxRecDepth 20000 in
theorem next_i (s : ByteArray) (hs : s.size ≤ 1048576) (i : Nat) (hi : i < s.size) (b : Nat) (l v : Value) (w : World) (hw : Box w b 30 [.string s, .int .i64 i, l, v]) :
    Calls Try.prog 11 #[.pointer (some ⟨b, 0, none⟩)] w (RetNx s i w) := by
  have hbt := get_bt s
  have h0 : (0 : Int) ≤ (i : Int) := by omega
  have h1 : (i : Int) < (s.size : Int) := by omega
  have h2 : (i : Int) ≤ (s.size : Int) := by omega
  have HB := Lib.hid (fun n => hw.drewN n)
  obtain ⟨z, hz, hsg⟩ := sign_i (bt s i) (bt_lt s i hi).1 (bt_lt s i hi).2
  unfold sgT at hsg
  have HSG := Lib.hid hsg
  clear hsg
  have HP := Lib.hid (pre_arr s i hi)
  obtain ⟨c0, c1, -, -⟩ := lexer_cells hw
  clear hw
  cases hl : letB (bt s i)
  · cases hd : digB (bt s i)
    · cases ha : arrAt s i
      · rw [ha] at HP
        cases hg : signB (bt s i)
        · have HX := Lib.hid (lex_non hl hd ha hg)
          rw [hg] at hz
          have hz' : ¬ (0 : Int) ≤ z := of_decide_eq_false hz
          clear ha hg
          go_enter Try.func11, Try.ntmps11
          go_upto_region 1 with fail
          go_quiet (fail)
          go_wp2_with (first
            | (go_at_call 17; ((with_reducible refine (letter_i (bt s i) _).mono ?_); rintro e w1 ⟨rfl, rfl⟩; rw [hl]))
            | (go_at_call 19; ((with_reducible refine (digit_i (bt s i) _).mono ?_); rintro e w1 ⟨rfl, rfl⟩; rw [hd])))
          go_quiet ((go_at_call 16; exact quiet_same2 (HP.out _)))
          go_wp2_with (go_at_call 20; refine (HSG.out _).mono ?_; rintro e w1 ⟨rfl, rfl⟩)
          exact bodyPost_ret (v := .tuple #[.int .i64 0, .int .i64 0]) (by simp [results, Try.results11, go_sem]) rfl (ret_nx (E := 0) (by omega) HX.out (by first | exact ⟨_, rfl⟩ | exact ⟨_, by rw [World.drewN_drewN]⟩ | exact ⟨_, by rw [World.drewN_drewN, World.drewN_drewN]⟩))
        · have HX := Lib.hid (lex_sig hl hd ha hg)
          rw [hg] at hz
          have hz' : (0 : Int) ≤ z := of_decide_eq_true hz
          clear ha hg
          go_enter Try.func11, Try.ntmps11
          go_upto_region 1 with fail
          go_quiet (fail)
          go_wp2_with (first
            | (go_at_call 17; ((with_reducible refine (letter_i (bt s i) _).mono ?_); rintro e w1 ⟨rfl, rfl⟩; rw [hl]))
            | (go_at_call 19; ((with_reducible refine (digit_i (bt s i) _).mono ?_); rintro e w1 ⟨rfl, rfl⟩; rw [hd])))
          go_quiet ((go_at_call 16; exact quiet_same2 (HP.out _)))
          go_wp2_with (go_at_call 20; refine (HSG.out _).mono ?_; rintro e w1 ⟨rfl, rfl⟩)
          go_quiet (fail)
          go_wp2
          exact bodyPost_ret (v := .tuple #[.int .i64 3, .int .i64 ((i : Int) + 1)]) (by simp [results, Try.results11, go_sem]) rfl (ret_nx (E := i + 1) (by omega) HX.out (by first | exact ⟨_, rfl⟩ | exact ⟨_, by rw [World.drewN_drewN]⟩ | exact ⟨_, by rw [World.drewN_drewN, World.drewN_drewN]⟩))
      · rw [ha] at HP
        have HX := Lib.hid (lex_arr hl hd ha)
        clear ha hz HSG
        go_enter Try.func11, Try.ntmps11
        go_upto_region 1 with fail
        go_quiet (fail)
        go_wp2_with (first
          | (go_at_call 17; ((with_reducible refine (letter_i (bt s i) _).mono ?_); rintro e w1 ⟨rfl, rfl⟩; rw [hl]))
          | (go_at_call 19; ((with_reducible refine (digit_i (bt s i) _).mono ?_); rintro e w1 ⟨rfl, rfl⟩; rw [hd])))
        go_quiet ((go_at_call 16; exact quiet_same2 (HP.out _)))
        go_wp2
        go_quiet (fail)
        go_wp2
        exact bodyPost_ret (v := .tuple #[.int .i64 3, .int .i64 ((i : Int) + 2)]) (by simp [results, Try.results11, go_sem]) rfl (ret_nx (E := i + 2) (by omega) HX.out (by first | exact ⟨_, rfl⟩ | exact ⟨_, by rw [World.drewN_drewN]⟩ | exact ⟨_, by rw [World.drewN_drewN, World.drewN_drewN]⟩))
    · have HX := Lib.hid (lex_dig hl hd)
      have HWE := Lib.hid (fun n => wordEnd_i s hs false i hi hl (show numAt s i = true by simp [numAt, hd]) b (.int .i64 i) l v (w.drewN n) (HB.out n))
      unfold RetEnd at HWE
      rw [scan_num] at HWE
      obtain ⟨E, hE⟩ : ∃ E, scan (numAt s) s.size i = E := ⟨_, rfl⟩
      rw [hE] at HX HWE
      clear hE hz HSG HP
      go_enter Try.func11, Try.ntmps11
      go_upto_region 1 with fail
      go_quiet (fail)
      go_wp2_with (first
        | (go_at_call 17; ((with_reducible refine (letter_i (bt s i) _).mono ?_); rintro e w1 ⟨rfl, rfl⟩; rw [hl]))
        | (go_at_call 19; ((with_reducible refine (digit_i (bt s i) _).mono ?_); rintro e w1 ⟨rfl, rfl⟩; rw [hd]))
        | (go_at_call 18; refine (HWE.out _).mono ?_; rintro e w1 ⟨rfl, n1, rfl⟩))
      exact bodyPost_ret (v := .tuple #[.int .i64 2, .int .i64 (E : Int)]) (by simp [results, Try.results11, go_sem]) rfl (ret_nx (E := E) (by omega) HX.out (by first | exact ⟨_, rfl⟩ | exact ⟨_, by rw [World.drewN_drewN]⟩ | exact ⟨_, by rw [World.drewN_drewN, World.drewN_drewN]⟩))
  · have HX := Lib.hid (lex_let hl)
    have HWE := Lib.hid (fun n => wordEnd_i s hs true i hi hl (show wordAt s i = true by simp [wordAt, alnB, hl]) b (.int .i64 i) l v (w.drewN n) (HB.out n))
    unfold RetEnd at HWE
    rw [scan_word] at HWE
    obtain ⟨E, hE⟩ : ∃ E, scan (wordAt s) s.size i = E := ⟨_, rfl⟩
    rw [hE] at HX HWE
    clear hE hz HSG HP
    go_enter Try.func11, Try.ntmps11
    go_upto_region 1 with fail
    go_quiet (fail)
    go_wp2_with (first
      | (go_at_call 17; ((with_reducible refine (letter_i (bt s i) _).mono ?_); rintro e w1 ⟨rfl, rfl⟩; rw [hl]))
      | (go_at_call 19; ((with_reducible refine (digit_i (bt s i) _).mono ?_); rintro e w1 ⟨rfl, rfl⟩; rw [hd]))
      | (go_at_call 18; refine (HWE.out _).mono ?_; rintro e w1 ⟨rfl, n1, rfl⟩))
    exact bodyPost_ret (v := .tuple #[.int .i64 1, .int .i64 (E : Int)]) (by simp [results, Try.results11, go_sem]) rfl (ret_nx (E := E) (by omega) HX.out (by first | exact ⟨_, rfl⟩ | exact ⟨_, by rw [World.drewN_drewN]⟩ | exact ⟨_, by rw [World.drewN_drewN, World.drewN_drewN]⟩))
end Go.Proofs.Ytofihcahimdbhaa
