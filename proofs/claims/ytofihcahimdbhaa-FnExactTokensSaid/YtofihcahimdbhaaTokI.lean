/- Tokens: by the program: the whole. -/
import Derived.Test.YtofihcahimdbhaaTokZ
import Derived.Test.YtofihcahimdbhaaTokU
import Derived.Deep.RegionLaw
namespace Go.Proofs.Ytofihcahimdbhaa
open Go.RowKit Go.PlainAid

theorem scan_pos {p : Nat → Bool} {n i : Nat} (h : i < n) (hp : p i = true) : scan p n i ≠ 0 := by
  rw [scan_yes h hp]
  have := (scan_le (p := p) (n := n) (i := i + 1) (by omega)).1
  omega
theorem lex_iff {s : ByteArray} {i : Nat} (h : i < s.size) : lexK s i = 0 ↔ lexE s i = 0 := by
  unfold lexK lexE
  split
  · rename_i hl
    have := scan_pos (p := wordAt s) h (by simp [wordAt, alnB, hl])
    simp [this]
  · split
    · rename_i hl
      have := scan_pos (p := numAt s) h (by simp [numAt, hl])
      simp [this]
    · split
      · simp
      · split <;> simp
theorem OwnP.drewN {w : World} {base : Nat} {e : TypeId} {size : Nat} {v : Value} {n : Nat} {ds : List D} (h : OwnP w base e size v n ds) (m : Nat) : OwnP (w.drewN m) base e size v n ds := OwnP.keep (w := w) (w' := w.drewN m) h (Nat.le_refl _) (fun _ _ _ => rfl)
theorem OwnP.only {w w' : World} {b : Nat} {base : Nat} {e : TypeId} {size : Nat} {v : Value} {n : Nat} {ds : List D} (h : OwnP w base e size v n ds) (ho : Only b w w') (hb : b < base) : OwnP w' base e size v n ds :=
  h.keep (by rw [ho.2.1]; exact Nat.le_refl _) (fun c hc _ => ho.2.2 c (by omega))
theorem at_worldT {P : Program} {ops : Array Oper} {o : Oper} {a : Act} {K : Act → World → Prop} {Q : Exit → Act → World → Prop} {E : Prop} (W : World) (h : if Region.wanted o (yielded ops a.tmps) = true then Oper.wp P o a W K Q else E) : if Region.wanted o (yielded ops a.tmps) = true then Oper.wp P o a W K Q else E := h
/-- The same as one step of a region that draws its order, the element laid ahead of the draw. -/
theorem step_ownD {P : Program} {w0 : World} {ops : Array Oper} {o : Oper} {a : Act} {K : Act → World → Prop} {Q : Exit → Act → World → Prop} {E : Prop} {base : Nat} {e t : TypeId} {size bytes n : Nat} {v : Value} {vs : List Value} {ds es : List D} {i : TypeInfo} {z : Value} {fz : Nat × Nat}
    (hp : OwnP w0.drew base e size v n ds) (hr : SepsIn w0.drew w0.drew.heap.size w0.drew.heap.size es vs) (s x : Operand) (ht : P.underlying t = some (.slice e)) (hi : P.info? e = some i) (hz : i.zero = some z)
    (hsize : i.size = size) (hby : i.bytes = bytes) (hzs : z.cells.size = size) (hsz : 0 < size)
    (hl : vs.length = size) (h1 : ∀ u ∈ vs, u.oneCell' = true) (h63 : n + 1 ≤ maxLen) (hbytes : (n + 1) * bytes ≤ 140737488355328)
    (h : ∀ v' w', OwnP w' base e size v' (n + 1) (ds ++ es) → Below base w0.drew w' → K (a.put o.dst v') w')
    (hgd : o.guard = none := by exact rfl) (ho : o.op = .call { callee := .builtin .append, args := #[s, x], argTypes := #[t, t] } := by exact rfl)
    (hs : a.eval s = v := by simp [Act.eval, Act.put]) (hx : a.eval x = .slice (some ⟨w0.heap.size, 0, none⟩) 1 1 := by simp [Act.eval, Act.put]) :
    if Region.wanted o (yielded ops a.tmps) = true then Oper.wp P o a ((w0.alloc (.cells vs.toArray e fz)).drew) K Q else E :=
  step_ownP (w0 := w0.drew) (w1 := w0.drew) (fz := fz) hp (Below.refl _ _) hr s x ht hi hz hsize hby hzs hsz hl h1 h63 hbytes h hgd ho hs hx
set_option maxHeartbeats 8000000 in
set_option maxRecDepth 20000 in
theorem Tokens_i (s : ByteArray) (hs : s.size ≤ 1048576) (w : World) : Calls Try.prog 5 #[.string s] w (RetTk (tokensR s) w) := by
  obtain ⟨R, hR⟩ : ∃ R, tokensR s = R := ⟨_, rfl⟩
  rw [hR]
  by_cases hbig : s.size ≤ 30000
  · obtain ⟨j0, hj, hy0, hy1, hy2⟩ := info_parts info_tk
    have HJ := Lib.hid (And.intro hj (And.intro hy0 (And.intro hy1 hy2)))
    have hb0 : (s.size : Int) ≤ 30000 := by omega
    have HL := Lib.hid (skipT_le (s := s) (i := 0) (l := 1) (Nat.zero_le _))
    have hR2 : toks s (skipT s 0 1).1 (skipT s 0 1).2 [] = R := by rw [← hR, tokensR, if_pos hbig]
    obtain ⟨w0, hw0⟩ : ∃ w0, w0 = w.alloc (.cells #[.string s, .int .i64 0, .int .i64 1, .slice none 0 0] 30) := ⟨_, rfl⟩
    have B0 : Below w.heap.size w w0 := by rw [hw0]; exact (Below.refl _ _).alloc (Nat.le_refl _) _
    have X0 : Box w0 w.heap.size 30 [.string s, .int .i64 0, .int .i64 1, .slice none 0 0] := by rw [hw0]; exact Box.new w _ _
    have S0 : w0.heap.size = w.heap.size + 1 := by rw [hw0]; simp
    obtain ⟨b, hb⟩ : ∃ b, b = w.heap.size := ⟨_, rfl⟩
    rw [← hb] at X0
    have HSK := Lib.hid (skip_i s hs 0 (Nat.zero_le _) 1 (by omega) (by omega) b _ w0 X0)
    unfold RetSk at HSK
    obtain ⟨k1, hk1⟩ : ∃ k, (skipT s 0 1).1 = k := ⟨_, rfl⟩
    obtain ⟨q1, hq1⟩ : ∃ k, (skipT s 0 1).2 = k := ⟨_, rfl⟩
    rw [hk1, hq1] at HSK hR2 HL
    have HR2 := Lib.hid hR2
    have HB0 := Lib.hid (And.intro B0 (And.intro S0 hb))
    have HNB := Lib.hid hb
    clear hR2 hR hk1 hq1 hj hy0 hy1 hy2 B0 X0 S0 hb
    go_enter Try.func5, Try.ntmps5
    go_upto_region 4 with fail
    rw [← hw0, ← HNB.out]
    clear hw0
    go_wp2_with fail
    refine HSK.out.mono ?_
    rintro e w1 ⟨rfl, hX, hO⟩
    have HX1 := Lib.hid hX
    have HO1 := Lib.hid hO
    clear hX hO HSK
    go_wp2
    go_loopw [] (fun wr => ∃ (k : Nat) (q : Int) (acc : List Tok) (vK : Value), k ≤ s.size ∧ Box wr b 30 [.string s, .int .i64 k, .int .i64 q, vK] ∧ 0 ≤ q ∧ q ≤ 1 + (k : Int) ∧ acc.length ≤ 4000 ∧ OwnP wr (b + 1) 34 3 vK acc.length (acc.flatMap Tok.ds) ∧ Below b w wr ∧ toks s k q acc = R) (fun wr => s.size - atOf wr b)
    case atStart =>
      have hL := HL.out
      obtain ⟨B0, S0, rfl⟩ := HB0.out
      exact ⟨k1, q1, [], _, hL.2.1, HX1.out, by omega, by omega, by simp, OwnP.nil (by rw [HO1.out.2.1]; omega), B0.trans HO1.out.1, HR2.out⟩
    case round =>
      obtain ⟨k, q, acc, vK, hk, hX, hq0, hq1, hac, hO, hbl, hst⟩ := hrel
      obtain ⟨AO, cO, rfl⟩ := hO.form
      have HO := Lib.hid hO
      have HB := Lib.hid hbl
      have HX := Lib.hid hX
      have HA := Lib.hid (atOf_box hX)
      obtain ⟨c0, c1, c2, c3⟩ := lexer_cells hX
      have lB := hX.lt
      clear hO hbl hX
      by_cases hlt : k < s.size
      · have i1 : (k : Int) < (s.size : Int) := by omega
        have HST := Lib.hid (show R = if lexE s k = 0 then ([], q, 6) else if acc.length = 4000 then ([], q, 4) else toks s (skipT s (lexE s k) q).1 (skipT s (lexE s k) q).2 (acc ++ [⟨lexK s k, lexT s k, q⟩]) by rw [← hst]; exact toks_step hlt)
        have HK := Lib.hid (And.intro (lexK_in s k) (lexT_size s k))
        have HE := Lib.hid (lexE_le hlt)
        have HI := Lib.hid (lex_iff hlt)
        have HT := Lib.hid (show lexK s k ≠ 0 → lexT s k = s.extract k (lexE s k) from fun h => if_neg h)
        have HNX := Lib.hid (next_i s hs k hlt b _ _ wr HX.out)
        unfold RetNx at HNX
        clear hst
        obtain ⟨K, hK⟩ : ∃ K, lexK s k = K := ⟨_, rfl⟩
        obtain ⟨T, hT⟩ : ∃ T, lexT s k = T := ⟨_, rfl⟩
        obtain ⟨E, hE⟩ : ∃ E, lexE s k = E := ⟨_, rfl⟩
        rw [hK, hT] at HST HK HT
        rw [hK] at HNX HI
        rw [hE] at HST HE HNX HI HT
        clear hK hT hE
        go_wp2_with fail
        refine HNX.out.mono ?_
        rintro e w2 ⟨rfl, hw2⟩
        have HX2 := Lib.hid (show Box w2 b 30 [.string s, .int .i64 k, .int .i64 q, .slice AO acc.length cO] by obtain ⟨n1, rfl⟩ := hw2; exact HX.out.drewN n1)
        have HO2 := Lib.hid (show OwnP w2 (b + 1) 34 3 (.slice AO acc.length cO) acc.length (acc.flatMap Tok.ds) by obtain ⟨n1, rfl⟩ := hw2; exact HO.out.drewN n1)
        have HB2 := Lib.hid (show Below b w w2 by obtain ⟨n1, rfl⟩ := hw2; exact below_drewN HB.out n1)
        clear hw2 c0 c1 c2 c3 lB
        obtain ⟨c0, c1, c2, c3⟩ := lexer_cells HX2.out
        have lB := HX2.out.lt
        by_cases hz : K = 0
        · subst hz
          have HV := Lib.hid (show R = ([], q, 6) by rw [HST.out, if_pos (HI.out.1 rfl)])
          go_upto_region 9 with fail
          go_quiet (fail)
          go_wp2
          exact bodyPost_ret (v := .tuple #[.slice none 0 0, .int .i64 q, .int .i64 6]) (by simp [results, Try.results5, go_sem]) rfl (tk_nil HV.out (by have := HB2.out; rw [HNB.out] at this; exact below_drewN this _))
        · have hKz : ((K : Int) == 0) = false := beq_eq_false_iff_ne.2 hz
          have hEz : E ≠ 0 := fun h => hz (HI.out.2 h)
          by_cases hm : acc.length = 4000
          · have HV := Lib.hid (show R = ([], q, 4) by rw [HST.out, if_neg hEz, if_pos hm])
            have hm' : ((acc.length : Int) == 4000) = true := by rw [beq_iff_eq]; omega
            clear hm hz
            go_upto_region 11 with fail
            go_quiet (fail)
            go_wp2
            exact bodyPost_ret (v := .tuple #[.slice none 0 0, .int .i64 q, .int .i64 4]) (by simp [results, Try.results5, go_sem]) rfl (tk_nil HV.out (by have := HB2.out; rw [HNB.out] at this; exact below_drewN this _))
          · have hm' : ((acc.length : Int) == 4000) = false := by rw [beq_eq_false_iff_ne]; omega
            have hEs := HE.out hEz
            have HT2 := Lib.hid (HT.out hz)
            have HV := Lib.hid (show toks s (skipT s E q).1 (skipT s E q).2 (acc ++ [⟨K, T, q⟩]) = R by rw [HST.out, if_neg hEz, if_neg hm])
            have e1 : (k : Int) ≤ (E : Int) := by omega
            have e2 : (E : Int) ≤ (s.size : Int) := by omega
            have hac1 : acc.length + 1 ≤ 4000 := by omega
            clear hm hz
            go_upto_region 12 with fail
            have hOd : OwnP w2.drew (b + 1) 34 3 (.slice AO acc.length cO) acc.length (acc.flatMap Tok.ds) := HO2.out.drew
            have hSp : SepsIn w2.drew w2.drew.heap.size w2.drew.heap.size (Tok.ds ⟨K, T, q⟩) [.int .i64 K, .string (s.extract k E), .int .i64 q] := by
              have := seps_tok (w := w2.drew) ⟨K, T, q⟩ HK.out.1 (by have := HK.out.2; unfold maxLen; dsimp only; omega) ⟨by dsimp only; omega, by dsimp only; omega⟩ (Nat.le_refl w2.drew.heap.size)
              rw [HT2.out] at this
              rw [HT2.out]
              exact this
            have hlb : b < b + 1 := Nat.lt_succ_self b
            have HL2 := Lib.hid (skipT_le (s := s) (i := E) (l := q) hEs.2)
            have HSK2 := Lib.hid (fun W vK h => skip_i s hs E hEs.2 q hq0 (by omega) b vK W h)
            unfold RetSk at HSK2
            obtain ⟨k2, hk2⟩ : ∃ k, (skipT s E q).1 = k := ⟨_, rfl⟩
            obtain ⟨q2, hq2⟩ : ∃ k, (skipT s E q).2 = k := ⟨_, rfl⟩
            rw [hk2, hq2] at HSK2 HV HL2
            clear hk2 hq2
            go_region_law ((with_reducible refine at_worldT ((w2.alloc (.cells #[.int .i64 K, .string (s.extract k E), .int .i64 q] 34)).drew) ?_); refine step_ownD (w0 := w2) (vs := [.int .i64 K, .string (s.extract k E), .int .i64 q]) hOd hSp (.tmp 52) (.tmp 66) Try.underlying22 HJ.out.1 HJ.out.2.1 HJ.out.2.2.1 HJ.out.2.2.2 rfl (by decide) rfl (by simp [Value.oneCell']) (by unfold maxLen; omega) (by omega) ?_; intro v' w' ho' hb'; obtain ⟨A2, d2, rfl⟩ := ho'.form; have bG2 : Box w' b 30 [.string s, .int .i64 k, .int .i64 q, .slice AO acc.length cO] := (hb'.block b hlb).trans HX2.out; obtain ⟨cg0, cg1, cg2, cg3⟩ := lexer_cells bG2; have fg := bG2.frozen; have lg := bG2.lt)
            all_goals
              have HXN := Lib.hid (show Box ((w'.setCell ⟨b, 3, none⟩ (.slice A2 (acc.length + 1) d2)).setCell ⟨b, 1, none⟩ (.int .i64 E)) b 30 [.string s, .int .i64 E, .int .i64 q, .slice A2 (acc.length + 1) d2] from (bG2.set 3 _).set 1 _)
              have HON := Lib.hid ((ho'.set (p := ⟨b, 3, none⟩) hlb (.slice A2 (acc.length + 1) d2)).set (p := ⟨b, 1, none⟩) hlb (.int .i64 E))
              have HBN := Lib.hid (show Below b w ((w'.setCell ⟨b, 3, none⟩ (.slice A2 (acc.length + 1) d2)).setCell ⟨b, 1, none⟩ (.int .i64 E)) from ((HB2.out.drew.trans (hb'.mono (Nat.le_succ b))).setCell (p := ⟨b, 3, none⟩) (Nat.le_refl _) _).setCell (p := ⟨b, 1, none⟩) (Nat.le_refl _) _)
              clear c0 c1 c2 c3 lB ho' hb' bG2 hOd hSp hlb
              go_wp2_with fail
              refine (HSK2.out _ _ HXN.out).mono ?_
              rintro e w5 ⟨rfl, hX5, hO5⟩
              have HX5 := Lib.hid hX5
              have HO5 := Lib.hid hO5
              clear hX5 hO5 cg0 cg1 cg2 cg3 fg lg
              go_wp2
              go_roundw
              case rel =>
                have hL := HL2.out
                exact ⟨k2, q2, acc ++ [⟨K, T, q⟩], _, hL.2.1, HX5.out, by omega, by omega, by simp; omega, by have := HON.out.only HO5.out (Nat.lt_succ_self b); simpa using this, HBN.out.trans HO5.out.1, HV.out⟩
              case measure => have hL := HL2.out; rw [HA.out, atOf_box HX5.out]; omega
      · have HV := Lib.hid (show R = (acc ++ [⟨4, ⟨#[]⟩, q⟩], 0, 0) by rw [← hst]; exact toks_stop hlt)
        have hSp : SepsIn wr.drew wr.drew.heap.size wr.drew.heap.size (Tok.ds ⟨4, ⟨#[]⟩, q⟩) [.int .i64 4, .string ⟨#[]⟩, .int .i64 q] := seps_tok (w := wr.drew) ⟨4, ⟨#[]⟩, q⟩ ⟨by dsimp only; omega, by dsimp only; omega⟩ (Nat.zero_le _) ⟨by dsimp only; omega, by dsimp only; omega⟩ (Nat.le_refl _)
        have hOd : OwnP wr.drew (b + 1) 34 3 (.slice AO acc.length cO) acc.length (acc.flatMap Tok.ds) := HO.out.drew
        clear hst
        go_upto_region 14 with fail
        go_region_law ((with_reducible refine at_worldT ((wr.alloc (.cells #[.int .i64 4, .string ⟨#[]⟩, .int .i64 q] 34)).drew) ?_); refine step_ownD (w0 := wr) (vs := [.int .i64 4, .string ⟨#[]⟩, .int .i64 q]) hOd hSp (.tmp 77) (.tmp 83) Try.underlying22 HJ.out.1 HJ.out.2.1 HJ.out.2.2.1 HJ.out.2.2.2 rfl (by decide) rfl (by simp [Value.oneCell']) (by unfold maxLen; omega) (by omega) ?_; intro v' w' ho' hb'; obtain ⟨A2, d2, rfl⟩ := ho'.form)
        all_goals
          have HON := Lib.hid ho'
          have HBN := Lib.hid (show Below b w w' from HB.out.drew.trans (hb'.mono (Nat.le_succ b)))
          clear ho' hb' hOd hSp
          go_wp2
          refine bodyPost_ret (v := .tuple #[.slice A2 (acc.length + 1) d2, .int .i64 0, .int .i64 0]) (by simp [results, Try.results5, go_sem]) rfl ⟨_, by rw [HV.out], ?_, by rw [← HNB.out]; exact HBN.out⟩
          rw [HV.out]
          have hD := (HON.out.done (fun h => by omega)).weaken (lo' := w.heap.size) (by have := HNB.out; omega) (Nat.le_refl _)
          have e : rows Tok.ds 3 (acc ++ [⟨4, ⟨#[]⟩, q⟩]) = .sl (acc.length + 1) 3 (acc.flatMap Tok.ds ++ Tok.ds ⟨4, ⟨#[]⟩, q⟩) := by simp [rows]
          rw [e]
          exact hD
  · have hb0 : ¬ (s.size : Int) ≤ 30000 := by omega
    have hb1 : (30000 : Int) < (s.size : Int) := by omega
    have HV := Lib.hid (show R = ([], 0, 4) by rw [← hR, tokensR, if_neg hbig])
    clear hR
    go_enter Try.func5, Try.ntmps5
    go_wp2
    exact bodyPost_ret (v := .tuple #[.slice none 0 0, .int .i64 0, .int .i64 4]) (by simp [results, Try.results5, go_sem]) rfl (tk_nil HV.out (Below.refl _ _))
end Go.Proofs.Ytofihcahimdbhaa
