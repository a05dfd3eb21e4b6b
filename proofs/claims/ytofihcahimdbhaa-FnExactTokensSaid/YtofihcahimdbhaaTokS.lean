/- Tokens: the token at a place, by the reference: the walk. -/
import Derived.Test.YtofihcahimdbhaaTokR
namespace Go.Proofs.Ytofihcahimdbhaa
open Go.RowKit Go.PlainAid

def lexT (s : ByteArray) (i : Nat) : ByteArray := if lexK s i = 0 then ⟨#[]⟩ else s.extract i (lexE s i)
def RetLex (s : ByteArray) (i : Nat) (w : World) (e : Ending) (w' : World) : Prop := e = .returned (.tuple #[.agg #[.int .i64 (lexK s i), .string (lexT s i), .int .i64 0], .int .i64 (lexE s i : Nat)]) ∧ Below w.heap.size w w'
theorem lex_let {s : ByteArray} {i : Nat} (h : letB (bt s i) = true) : lexK s i = 1 ∧ lexE s i = scan (wordAt s) s.size i := by simp [lexK, lexE, h]
theorem lex_dig {s : ByteArray} {i : Nat} (h : letB (bt s i) = false) (h2 : digB (bt s i) = true) : lexK s i = 2 ∧ lexE s i = scan (numAt s) s.size i := by simp [lexK, lexE, h, h2]
theorem lex_arr {s : ByteArray} {i : Nat} (h : letB (bt s i) = false) (h2 : digB (bt s i) = false) (h3 : arrAt s i = true) : lexK s i = 3 ∧ lexE s i = i + 2 := by simp [lexK, lexE, h, h2, h3]
theorem lex_sig {s : ByteArray} {i : Nat} (h : letB (bt s i) = false) (h2 : digB (bt s i) = false) (h3 : arrAt s i = false) (h4 : signB (bt s i) = true) : lexK s i = 3 ∧ lexE s i = i + 1 := by simp [lexK, lexE, h, h2, h3, h4]
theorem lex_non {s : ByteArray} {i : Nat} (h : letB (bt s i) = false) (h2 : digB (bt s i) = false) (h3 : arrAt s i = false) (h4 : signB (bt s i) = false) : lexK s i = 0 ∧ lexE s i = 0 := by simp [lexK, lexE, h, h2, h3, h4]
theorem ret_lex {s : ByteArray} {i : Nat} {w w' : World} {k x : Int} {E : Nat} {T : ByteArray} (hx : (E : Int) = x) (h1 : lexK s i = k) (h2 : lexE s i = E) (h3 : (if k = 0 then ⟨#[]⟩ else s.extract i E) = T) (hb : Below w.heap.size w w') :
    RetLex s i w (.returned (.tuple #[.agg #[.int .i64 k, .string T, .int .i64 0], .int .i64 x])) w' := by
  subst h1 h2 h3 hx
  exact ⟨rfl, hb⟩
set_option maxHeartbeats 2000000 in
set_option maxRecDepth 20000 in
theorem l05Lex_s (s : ByteArray) (hs : s.size ≤ 1048576) (i : Nat) (hi : i < s.size) (w : World) : Calls Try.prog 15 #[.string s, .int .i64 i] w (RetLex s i w) := by
  have hbt := get_bt s
  have h0 : (0 : Int) ≤ (i : Int) := by omega
  have h1 : (i : Int) < (s.size : Int) := by omega
  have h2 : (0 : Int) ≤ (i : Int) + 1 := by omega
  have h3 : ((i : Int) + 1).toNat = i + 1 := by omega
  cases hl : letB (bt s i)
  · cases hd : digB (bt s i)
    · rcases arr_ways s i with ⟨ha, ho⟩ | ⟨ha, h4, ho⟩ | ⟨ha, h4, ha2, ho⟩ | ⟨ha, h4, ha2, ho⟩
      · cases hg : signB (bt s i)
        · have HX := Lib.hid (lex_non hl hd ho hg)
          have HO := Lib.hid hg
          clear ho hg
          go_enter Try.func15, Try.ntmps15
          go_wp2_with (first
            | (go_at_call 21; ((with_reducible refine (letter_s _ _).mono ?_); rintro e w1 ⟨rfl, rfl⟩; rw [hl]))
            | (go_at_call 23; ((with_reducible refine (digit_s _ _).mono ?_); rintro e w1 ⟨rfl, rfl⟩; rw [hd]))
            | (go_at_call 25; ((with_reducible refine (l05Sign_s _ _).mono ?_); rintro e w1 ⟨rfl, rfl⟩; rw [HO.out])))
          exact bodyPost_ret (v := .tuple #[.agg #[.int .i64 0, .string ⟨#[]⟩, .int .i64 0], .int .i64 0]) (by simp [results, Try.results15, go_sem]) rfl (ret_lex (E := 0) rfl HX.out.1 HX.out.2 rfl ((Below.refl _ _).alloc (Nat.le_refl _) _))
        · have HX := Lib.hid (lex_sig hl hd ho hg)
          have HO := Lib.hid hg
          have h5 : (i : Int) + 1 ≤ (s.size : Int) := by omega
          clear ho hg
          go_enter Try.func15, Try.ntmps15
          go_wp2_with (first
            | (go_at_call 21; ((with_reducible refine (letter_s _ _).mono ?_); rintro e w1 ⟨rfl, rfl⟩; rw [hl]))
            | (go_at_call 23; ((with_reducible refine (digit_s _ _).mono ?_); rintro e w1 ⟨rfl, rfl⟩; rw [hd]))
            | (go_at_call 25; ((with_reducible refine (l05Sign_s _ _).mono ?_); rintro e w1 ⟨rfl, rfl⟩; rw [HO.out])))
          exact bodyPost_ret (v := .tuple #[.agg #[.int .i64 3, .string (s.extract i (i + 1)), .int .i64 0], .int .i64 ((i : Int) + 1)]) (by simp [results, Try.results15, go_sem]) rfl (ret_lex (E := i + 1) (by omega) HX.out.1 HX.out.2 rfl ((Below.refl _ _).alloc (Nat.le_refl _) _))
      · cases hg : signB (bt s i)
        · have HX := Lib.hid (lex_non hl hd ho hg)
          have HO := Lib.hid hg
          clear ho hg
          go_enter Try.func15, Try.ntmps15
          go_wp2_with (first
            | (go_at_call 21; ((with_reducible refine (letter_s _ _).mono ?_); rintro e w1 ⟨rfl, rfl⟩; rw [hl]))
            | (go_at_call 23; ((with_reducible refine (digit_s _ _).mono ?_); rintro e w1 ⟨rfl, rfl⟩; rw [hd]))
            | (go_at_call 25; ((with_reducible refine (l05Sign_s _ _).mono ?_); rintro e w1 ⟨rfl, rfl⟩; rw [HO.out])))
          exact bodyPost_ret (v := .tuple #[.agg #[.int .i64 0, .string ⟨#[]⟩, .int .i64 0], .int .i64 0]) (by simp [results, Try.results15, go_sem]) rfl (ret_lex (E := 0) rfl HX.out.1 HX.out.2 rfl ((Below.refl _ _).alloc (Nat.le_refl _) _))
        · have HX := Lib.hid (lex_sig hl hd ho hg)
          have HO := Lib.hid hg
          have h5 : (i : Int) + 1 ≤ (s.size : Int) := by omega
          clear ho hg
          go_enter Try.func15, Try.ntmps15
          go_wp2_with (first
            | (go_at_call 21; ((with_reducible refine (letter_s _ _).mono ?_); rintro e w1 ⟨rfl, rfl⟩; rw [hl]))
            | (go_at_call 23; ((with_reducible refine (digit_s _ _).mono ?_); rintro e w1 ⟨rfl, rfl⟩; rw [hd]))
            | (go_at_call 25; ((with_reducible refine (l05Sign_s _ _).mono ?_); rintro e w1 ⟨rfl, rfl⟩; rw [HO.out])))
          exact bodyPost_ret (v := .tuple #[.agg #[.int .i64 3, .string (s.extract i (i + 1)), .int .i64 0], .int .i64 ((i : Int) + 1)]) (by simp [results, Try.results15, go_sem]) rfl (ret_lex (E := i + 1) (by omega) HX.out.1 HX.out.2 rfl ((Below.refl _ _).alloc (Nat.le_refl _) _))
      · have HX := Lib.hid (lex_arr hl hd ho)
        have HA := Lib.hid (arr_text (by omega) ha ha2)
        clear ho
        go_enter Try.func15, Try.ntmps15
        go_wp2_with (first
          | (go_at_call 21; ((with_reducible refine (letter_s _ _).mono ?_); rintro e w1 ⟨rfl, rfl⟩; rw [hl]))
          | (go_at_call 23; ((with_reducible refine (digit_s _ _).mono ?_); rintro e w1 ⟨rfl, rfl⟩; rw [hd])))
        exact bodyPost_ret (v := .tuple #[.agg #[.int .i64 3, .string ⟨#[45, 62]⟩, .int .i64 0], .int .i64 ((i : Int) + 2)]) (by simp [results, Try.results15, go_sem]) rfl (ret_lex (E := i + 2) (by omega) HX.out.1 HX.out.2 HA.out ((Below.refl _ _).alloc (Nat.le_refl _) _))
      · cases hg : signB (bt s i)
        · have HX := Lib.hid (lex_non hl hd ho hg)
          have HO := Lib.hid hg
          clear ho hg
          go_enter Try.func15, Try.ntmps15
          go_wp2_with (first
            | (go_at_call 21; ((with_reducible refine (letter_s _ _).mono ?_); rintro e w1 ⟨rfl, rfl⟩; rw [hl]))
            | (go_at_call 23; ((with_reducible refine (digit_s _ _).mono ?_); rintro e w1 ⟨rfl, rfl⟩; rw [hd]))
            | (go_at_call 25; ((with_reducible refine (l05Sign_s _ _).mono ?_); rintro e w1 ⟨rfl, rfl⟩; rw [HO.out])))
          exact bodyPost_ret (v := .tuple #[.agg #[.int .i64 0, .string ⟨#[]⟩, .int .i64 0], .int .i64 0]) (by simp [results, Try.results15, go_sem]) rfl (ret_lex (E := 0) rfl HX.out.1 HX.out.2 rfl ((Below.refl _ _).alloc (Nat.le_refl _) _))
        · have HX := Lib.hid (lex_sig hl hd ho hg)
          have HO := Lib.hid hg
          have h5 : (i : Int) + 1 ≤ (s.size : Int) := by omega
          clear ho hg
          go_enter Try.func15, Try.ntmps15
          go_wp2_with (first
            | (go_at_call 21; ((with_reducible refine (letter_s _ _).mono ?_); rintro e w1 ⟨rfl, rfl⟩; rw [hl]))
            | (go_at_call 23; ((with_reducible refine (digit_s _ _).mono ?_); rintro e w1 ⟨rfl, rfl⟩; rw [hd]))
            | (go_at_call 25; ((with_reducible refine (l05Sign_s _ _).mono ?_); rintro e w1 ⟨rfl, rfl⟩; rw [HO.out])))
          exact bodyPost_ret (v := .tuple #[.agg #[.int .i64 3, .string (s.extract i (i + 1)), .int .i64 0], .int .i64 ((i : Int) + 1)]) (by simp [results, Try.results15, go_sem]) rfl (ret_lex (E := i + 1) (by omega) HX.out.1 HX.out.2 rfl ((Below.refl _ _).alloc (Nat.le_refl _) _))
    · have HX := Lib.hid (lex_dig hl hd)
      have HL := Lib.hid (scan_le (p := numAt s) (Nat.le_of_lt hi))
      obtain ⟨E, hE⟩ : ∃ E, scan (numAt s) s.size i = E := ⟨_, rfl⟩
      rw [hE] at HX HL
      have HE := Lib.hid hE
      have e1 : (i : Int) ≤ (E : Int) := by have := HL.out; omega
      have e2 : (E : Int) ≤ (s.size : Int) := by have := HL.out; omega
      clear hE
      go_enter Try.func15, Try.ntmps15
      go_wp2_with (first
        | (go_at_call 21; ((with_reducible refine (letter_s _ _).mono ?_); rintro e w1 ⟨rfl, rfl⟩; rw [hl]))
        | (go_at_call 23; ((with_reducible refine (digit_s _ _).mono ?_); rintro e w1 ⟨rfl, rfl⟩; rw [hd]))
        | (go_at_call 24; ((with_reducible refine (l05Number_s s hs i (Nat.le_of_lt hi) _).mono ?_); rintro e w1 ⟨rfl, rfl⟩; rw [HE.out])))
      exact bodyPost_ret (v := .tuple #[.agg #[.int .i64 2, .string (s.extract i E), .int .i64 0], .int .i64 (E : Int)]) (by simp [results, Try.results15, go_sem]) rfl (ret_lex (E := E) rfl HX.out.1 HX.out.2 rfl ((Below.refl _ _).alloc (Nat.le_refl _) _))
  · have HX := Lib.hid (lex_let hl)
    have HL := Lib.hid (scan_le (p := wordAt s) (Nat.le_of_lt hi))
    obtain ⟨E, hE⟩ : ∃ E, scan (wordAt s) s.size i = E := ⟨_, rfl⟩
    rw [hE] at HX HL
    have HE := Lib.hid hE
    have e1 : (i : Int) ≤ (E : Int) := by have := HL.out; omega
    have e2 : (E : Int) ≤ (s.size : Int) := by have := HL.out; omega
    clear hE
    go_enter Try.func15, Try.ntmps15
    go_wp2_with (first
      | (go_at_call 21; ((with_reducible refine (letter_s _ _).mono ?_); rintro e w1 ⟨rfl, rfl⟩; rw [hl]))
      | (go_at_call 22; ((with_reducible refine (l05Word_s s hs i (Nat.le_of_lt hi) _).mono ?_); rintro e w1 ⟨rfl, rfl⟩; rw [HE.out])))
    exact bodyPost_ret (v := .tuple #[.agg #[.int .i64 1, .string (s.extract i E), .int .i64 0], .int .i64 (E : Int)]) (by simp [results, Try.results15, go_sem]) rfl (ret_lex (E := E) rfl HX.out.1 HX.out.2 rfl ((Below.refl _ _).alloc (Nat.le_refl _) _))
end Go.Proofs.Ytofihcahimdbhaa
