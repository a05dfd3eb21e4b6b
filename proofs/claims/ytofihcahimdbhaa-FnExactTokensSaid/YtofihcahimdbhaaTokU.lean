/- Tokens: by the reference: the walk. -/
import Derived.Test.YtofihcahimdbhaaTokT
import Derived.Test.YtofihcahimdbhaaOwnP
namespace Go.Proofs.Ytofihcahimdbhaa
open Go.RowKit Go.PlainAid

theorem info_tk : (Try.prog.info? 34).map (fun i => (i.zero, i.size, i.bytes)) = some (some (.agg #[.int .i64 0, .string ⟨#[]⟩, .int .i64 0]), 3, 32) := by kernel_rfl
theorem seps_tok {w : World} {lo hi : Nat} (t : Tok) (h1 : -9223372036854775808 ≤ t.kind ∧ t.kind ≤ 9223372036854775807) (h2 : t.text.size ≤ maxLen) (h3 : -9223372036854775808 ≤ t.line ∧ t.line ≤ 9223372036854775807) (h : lo ≤ hi) :
    SepsIn w lo hi t.ds [.int .i64 t.kind, .string t.text, .int .i64 t.line] :=
  SepsIn.cons (SepIn.int h1) (SepsIn.cons (SepIn.str h2) (SepsIn.cons (SepIn.int h3) (SepsIn.nil h)))
theorem OwnP.lit (w : World) (e : TypeId) (size : Nat) : OwnP (w.alloc (.cells #[] e)) w.heap.size e size (.slice (some ⟨w.heap.size, 0, none⟩) 0 0) 0 [] :=
  ⟨by simp, [], [], ⟨by simp, .inr ⟨w.heap.size, 0, #[], rfl, Nat.le_refl _, heap_alloc_new w _, Nat.le_refl _, Nat.zero_le _, by simp, by simp⟩⟩, D.Seps.nil, List.nodup_nil, fun b hb => by cases hb⟩
theorem lexK_in (s : ByteArray) (i : Nat) : -9223372036854775808 ≤ lexK s i ∧ lexK s i ≤ 9223372036854775807 := by
  unfold lexK
  split
  · omega
  · split
    · omega
    · split
      · omega
      · split <;> omega
theorem lexT_size (s : ByteArray) (i : Nat) : (lexT s i).size ≤ s.size := by
  unfold lexT
  split
  · exact Nat.zero_le _
  · simp; omega
def RetTk (R : List Tok × Int × Int) (w : World) (e : Ending) (w' : World) : Prop := ∃ v, e = .returned (.tuple #[v, .int .i64 R.2.1, .int .i64 R.2.2]) ∧ SepIn w' w.heap.size w'.heap.size (rows Tok.ds 3 R.1) v ∧ Below w.heap.size w w'
theorem tk_nil {R : List Tok × Int × Int} {w w' : World} {q c : Int} (h : R = ([], q, c)) (hb : Below w.heap.size w w') : RetTk R w (.returned (.tuple #[.slice none 0 0, .int .i64 q, .int .i64 c])) w' := by
  subst h
  exact ⟨_, rfl, ⟨hb.size, [], D.Sep.empty (Nat.zero_le _), List.nodup_nil, fun b hb => by cases hb⟩, hb⟩
set_option maxHeartbeats 4000000 in
set_option maxRecDepth 20000 in
theorem l05Tokens_s (s : ByteArray) (hs : s.size ≤ 1048576) (w : World) : Calls Try.prog 9 #[.string s] w (RetTk (tokensR s) w) := by
  obtain ⟨R, hR⟩ : ∃ R, tokensR s = R := ⟨_, rfl⟩
  rw [hR]
  by_cases hbig : s.size ≤ 30000
  · obtain ⟨j0, hj, hy0, hy1, hy2⟩ := info_parts info_tk
    have HJ := Lib.hid (And.intro hj (And.intro hy0 (And.intro hy1 hy2)))
    have hb0 : (s.size : Int) ≤ 30000 := by omega
    have HL := Lib.hid (skipT_le (s := s) (i := 0) (l := 1) (Nat.zero_le _))
    have hR2 : toks s (skipT s 0 1).1 (skipT s 0 1).2 [] = R := by rw [← hR, tokensR, if_pos hbig]
    have HSK : ∀ W, Calls Try.prog 14 #[.string s, .int .i64 0, .int .i64 1] W (RetSkip s 0 1 W) := fun W => l05Skip_s s hs 0 (Nat.zero_le _) 1 (by omega) (by omega) W
    obtain ⟨k1, hk1⟩ : ∃ k, (skipT s 0 1).1 = k := ⟨_, rfl⟩
    obtain ⟨q1, hq1⟩ : ∃ k, (skipT s 0 1).2 = k := ⟨_, rfl⟩
    unfold RetSkip at HSK
    rw [hk1, hq1] at HSK hR2 HL
    have HR2 := Lib.hid hR2
    have HSK1 := Lib.hid HSK
    clear HSK hR2 hR hk1 hq1 hj hy0 hy1 hy2
    go_enter Try.func9, Try.ntmps9
    go_wp2_with fail
    refine (HSK1.out _).mono ?_
    rintro e w1 ⟨rfl, rfl⟩
    have HO1 := Lib.hid (OwnP.lit w 34 3)
    go_wp2
    go_loopw [5, 6, 7] (fun o a l wr => ∃ (k : Nat) (q : Int) (acc : List Tok), k ≤ s.size ∧ a = .int .i64 k ∧ l = .int .i64 q ∧ 0 ≤ q ∧ q ≤ 1 + (k : Int) ∧ acc.length ≤ 4000 ∧ OwnP wr w.heap.size 34 3 o acc.length (acc.flatMap Tok.ds) ∧ Below w.heap.size w wr ∧ toks s k q acc = R) (fun _ a _ _ => s.size - (intOf a).toNat)
    case atStart =>
      have hL := HL.out
      exact ⟨k1, q1, [], hL.2.1, rfl, rfl, by omega, by omega, by simp, HO1.out, (Below.refl _ _).alloc (Nat.le_refl _) _, HR2.out⟩
    case round =>
      obtain ⟨k, q, acc, hk, rfl, rfl, hq0, hq1, hac, hO, hb, hst⟩ := hrel
      obtain ⟨AO, cO, rfl⟩ := hO.form
      have HO := Lib.hid hO
      have HB := Lib.hid hb
      have hbs := hb.size
      clear hO hb
      by_cases hlt : k < s.size
      · have i1 : (k : Int) < (s.size : Int) := by omega
        have HST := Lib.hid (show R = if lexE s k = 0 then ([], q, 6) else if acc.length = 4000 then ([], q, 4) else toks s (skipT s (lexE s k) q).1 (skipT s (lexE s k) q).2 (acc ++ [⟨lexK s k, lexT s k, q⟩]) by rw [← hst]; exact toks_step hlt)
        have HK := Lib.hid (And.intro (lexK_in s k) (lexT_size s k))
        have HE := Lib.hid (lexE_le hlt)
        have HLX := Lib.hid (l05Lex_s s hs k hlt wr)
        unfold RetLex at HLX
        clear hst
        obtain ⟨K, hK⟩ : ∃ K, lexK s k = K := ⟨_, rfl⟩
        obtain ⟨T, hT⟩ : ∃ T, lexT s k = T := ⟨_, rfl⟩
        obtain ⟨E, hE⟩ : ∃ E, lexE s k = E := ⟨_, rfl⟩
        rw [hK, hT] at HST HK HLX
        rw [hE] at HST HE HLX
        clear hK hT hE
        go_wp2_with fail
        refine HLX.out.mono ?_
        rintro e w2 ⟨rfl, hb2⟩
        have HO2 := Lib.hid (HO.out.below hb2)
        have HB2 := Lib.hid (HB.out.trans (hb2.mono hbs))
        have hbs2 := HB2.out.size
        clear hb2
        by_cases hz : E = 0
        · subst hz
          have HV := Lib.hid (show R = ([], q, 6) by rw [HST.out, if_pos rfl])
          go_wp2
          exact bodyPost_ret (v := .tuple #[.slice none 0 0, .int .i64 q, .int .i64 6]) (by simp [results, Try.results9, go_sem]) rfl (tk_nil HV.out (HB2.out.alloc hbs2 _))
        · have hEz : ((E : Int) == 0) = false := beq_eq_false_iff_ne.2 (by omega)
          by_cases hm : acc.length = 4000
          · have HV := Lib.hid (show R = ([], q, 4) by rw [HST.out, if_neg hz, if_pos hm])
            have hm' : ((acc.length : Int) == 4000) = true := by rw [beq_iff_eq]; omega
            clear hm
            go_wp2
            exact bodyPost_ret (v := .tuple #[.slice none 0 0, .int .i64 q, .int .i64 4]) (by simp [results, Try.results9, go_sem]) rfl (tk_nil HV.out (HB2.out.alloc hbs2 _))
          · have hm' : ((acc.length : Int) == 4000) = false := by rw [beq_eq_false_iff_ne]; omega
            have hEs := HE.out hz
            have HV := Lib.hid (show toks s (skipT s E q).1 (skipT s E q).2 (acc ++ [⟨K, T, q⟩]) = R by rw [HST.out, if_neg hz, if_neg hm])
            have HL2 := Lib.hid (skipT_le (s := s) (i := E) (l := q) hEs.2)
            have HSK2 := Lib.hid (fun W => l05Skip_s s hs E hEs.2 q hq0 (by omega) W)
            unfold RetSkip at HSK2
            obtain ⟨k2, hk2⟩ : ∃ k, (skipT s E q).1 = k := ⟨_, rfl⟩
            obtain ⟨q2, hq2⟩ : ∃ k, (skipT s E q).2 = k := ⟨_, rfl⟩
            rw [hk2, hq2] at HSK2 HV HL2
            have hac1 : acc.length + 1 ≤ 4000 := by omega
            clear hk2 hq2 hm
            have hOb := HO2.out.below ((Below.refl _ w2).alloc (Nat.le_refl _) (.cells #[.int .i64 K, .string T, .int .i64 q] 34))
            have hsz : (w2.alloc (.cells #[.int .i64 K, .string T, .int .i64 q] 34)).heap.size = w2.heap.size + 1 := Array.size_push (xs := w2.heap) _
            have hSp : SepsIn (w2.alloc (.cells #[.int .i64 K, .string T, .int .i64 q] 34)) (w2.alloc (.cells #[.int .i64 K, .string T, .int .i64 q] 34)).heap.size (w2.alloc (.cells #[.int .i64 K, .string T, .int .i64 q] 34)).heap.size (Tok.ds ⟨K, T, q⟩) [.int .i64 K, .string T, .int .i64 q] :=
              seps_tok ⟨K, T, q⟩ HK.out.1 (by have := HK.out.2; unfold maxLen; dsimp only; omega) ⟨by dsimp only; omega, by dsimp only; omega⟩ (Nat.le_refl _)
            go_wp2_with (at_builtin; go_loud (refine wpList_ownP (hx := by rw [hsz]; exact rfl) (vs := [.int .i64 K, .string T, .int .i64 q]) hOb (Below.refl _ _) hSp (.tmp 38) (.tmp 40) Try.underlying22 HJ.out.1 HJ.out.2.1 HJ.out.2.2.1 HJ.out.2.2.2 rfl (by decide) rfl (by simp [Value.oneCell']) (by unfold maxLen; omega) (by omega) ?_); intro v' w' ho' hb')
            have HON := Lib.hid ho'
            have HBN := Lib.hid ((HB2.out.alloc hbs2 _).trans hb')
            clear ho' hb' hOb hSp
            go_wp2_with fail
            refine (HSK2.out _).mono ?_
            rintro e w5 ⟨rfl, rfl⟩
            go_wp2
            go_roundw
            case rel =>
              have hL := HL2.out
              exact ⟨k2, q2, acc ++ [⟨K, T, q⟩], hL.2.1, rfl, rfl, by omega, by omega, by simp; omega, by simpa using HON.out, HBN.out, HV.out⟩
            case measure => have hL := HL2.out; simp [intOf]; omega
      · have HV := Lib.hid (show R = (acc ++ [⟨4, ⟨#[]⟩, q⟩], 0, 0) by rw [← hst]; exact toks_stop hlt)
        have hSp : SepsIn wr wr.heap.size wr.heap.size (Tok.ds ⟨4, ⟨#[]⟩, q⟩) [.int .i64 4, .string ⟨#[]⟩, .int .i64 q] := seps_tok ⟨4, ⟨#[]⟩, q⟩ ⟨by dsimp only; omega, by dsimp only; omega⟩ (Nat.zero_le _) ⟨by dsimp only; omega, by dsimp only; omega⟩ (Nat.le_refl _)
        have hOb := HO.out
        clear hst
        go_wp2_with (at_builtin; refine wpList_ownP (vs := [.int .i64 4, .string ⟨#[]⟩, .int .i64 q]) hOb (Below.refl _ _) hSp (.tmp 49) (.tmp 52) Try.underlying22 HJ.out.1 HJ.out.2.1 HJ.out.2.2.1 HJ.out.2.2.2 rfl (by decide) rfl (by simp [Value.oneCell']) (by unfold maxLen; omega) (by omega) ?_; intro v' w' ho' hb')
        have HON := Lib.hid ho'
        have HBN := Lib.hid (HB.out.trans hb')
        obtain ⟨A2, c2, rfl⟩ := ho'.form
        clear ho' hb' hOb hSp
        go_wp2
        refine bodyPost_ret (v := .tuple #[.slice A2 (acc.length + 1) c2, .int .i64 0, .int .i64 0]) (by simp [results, Try.results9, go_sem]) rfl ⟨_, by rw [HV.out], ?_, HBN.out⟩
        rw [HV.out]
        have hD := HON.out.done (fun h => by omega)
        have e : rows Tok.ds 3 (acc ++ [⟨4, ⟨#[]⟩, q⟩]) = .sl (acc.length + 1) 3 (acc.flatMap Tok.ds ++ Tok.ds ⟨4, ⟨#[]⟩, q⟩) := by simp [rows]
        rw [e]
        exact hD
  · have hb0 : ¬ (s.size : Int) ≤ 30000 := by omega
    have hb1 : (30000 : Int) < (s.size : Int) := by omega
    have HV := Lib.hid (show R = ([], 0, 4) by rw [← hR, tokensR, if_neg hbig])
    clear hR
    go_enter Try.func9, Try.ntmps9
    go_wp2
    exact bodyPost_ret (v := .tuple #[.slice none 0 0, .int .i64 0, .int .i64 4]) (by simp [results, Try.results9, go_sem]) rfl (tk_nil HV.out (Below.refl _ _))
end Go.Proofs.Ytofihcahimdbhaa
