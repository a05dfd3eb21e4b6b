/- Tokens: the law. -/
import Derived.Test.YtofihcahimdbhaaTokI
import Derived.Test.YtofihcahimdbhaaTokV
import Derived.Test.YtofihcahimdbhaaMarkQ
import Derived.Test.YtofihcahimdbhaaMkToken
import Derived.Test.YtofihcahimdbhaaGToken
namespace Go.Proofs.Ytofihcahimdbhaa
open Go.RowKit

theorem toksF_len (s : ByteArray) (f k : Nat) (q : Int) (acc : List Tok) (h : acc.length ≤ 4000) : (toksF s f k q acc).1.length ≤ 4001 := by
  induction f generalizing k q acc with
  | zero => simp [toksF]; omega
  | succ f ih =>
    rw [toksF]
    split
    · split
      · simp
      · split
        · simp
        · exact ih _ _ _ (by simp; omega)
    · simp; omega
theorem tokensR_len (s : ByteArray) : (tokensR s).1.length ≤ 4001 := by
  unfold tokensR
  split
  · exact toksF_len _ _ _ _ _ (by simp)
  · simp
theorem toks_count (l : List Tok) : D.counts (l.flatMap Tok.ds) = 3 * l.length := by
  induction l with
  | nil => rfl
  | cons x r ih =>
    have e : D.counts (Tok.ds x ++ r.flatMap Tok.ds) = 3 + D.counts (r.flatMap Tok.ds) := by simp [Tok.ds, D.counts, D.count]; omega
    rw [List.flatMap_cons, e, ih, List.length_cons]; omega
set_option maxHeartbeats 4000000 in
set_option maxRecDepth 20000 in
theorem law_FnExactTokens (s : ByteArray) (_ws : s.data.toList.length ≤ maxLen) (w : World) : Calls Try.prog 3 #[.string s] w fun e w' => e = .returned (.bool true) ∧ Below w.heap.size w w' := by
  by_cases hs : s.size ≤ 1048576
  · have HTS := Lib.hid (fun W => Tokens_s s hs W)
    have HTI := Lib.hid (fun W => Tokens_i s hs W)
    have hlen := tokensR_len s
    have hi : ¬ (1048576 : Int) < (s.size : Int) := by omega
    obtain ⟨R, hR⟩ : ∃ R, tokensR s = R := ⟨_, rfl⟩
    rw [hR] at HTS HTI hlen
    clear hR
    obtain ⟨L, q, c⟩ := R
    have HC := Lib.hid (show 1 + D.count (rows Tok.ds 3 L) ≤ 1000000000000 by rw [rows_count, toks_count]; simp only at hlen; omega)
    clear hlen
    go_enter Try.func3, Try.ntmps3
    go_wp2_with fail
    refine (HTS.out _).mono ?_
    rintro e w1 ⟨v0, rfl, at1, b1⟩
    have H0 := Lib.hid (show D.At w1 (fun b => b < w1.heap.size) (rows Tok.ds 3 L) v0 from at1.lt_)
    have B1 := b1
    have HB1 := Lib.hid b1.size
    clear at1 b1
    go_wp2_with fail
    refine (HTI.out _).mono ?_
    rintro e w2 ⟨v1, rfl, at2, b2⟩
    have B2 := B1.trans (b2.mono B1.size)
    replace H0 := Lib.hid (H0.out.below b2)
    have G := Lib.hid at2
    have s12 := b2.size
    clear at2 b2 B1
    go_wp2_with fail
    refine (eqTokenS_w L L (fun x _ => eqToken_w x) v1 v0 _ G.out.at_ H0.out.any_).mono ?_
    rintro e w3 ⟨rfl, b3⟩
    have B3 := B2.trans (b3.mono B2.size)
    have s23 := b3.size
    replace H0 := Lib.hid (H0.out.below b3)
    replace G := Lib.hid (G.out.below b3 (Nat.le_refl _))
    have hrefl : pairs Tok.same L L = true := pairs_refl (q := Tok.same) (fun x _ => Tok.same_refl x)
    rw [hrefl]
    clear b3 B2
    obtain ⟨-, lG, hG1, hG2, hG3⟩ := G.out
    have KG := Lib.hid (And.intro hG1 (And.intro hG2 hG3))
    clear hG1 hG2 hG3 G
    have sB : w.heap.size ≤ w1.heap.size := HB1.out
    go_wp2_with fail
    refine (markTokenS_w L _ lG 1 _ _ (by rfl) (by omega) HC.out KG.out.1 KG.out.2.1).mono ?_
    rintro e w4 ⟨m4, hm4, rfl, sg, wr4⟩
    have HM := Lib.hid hm4
    clear hm4
    have B4 := B3.trans (wr4.below B3.size (fun b hb => by have := KG.out.2.2 b hb; omega))
    have hkeep : ∀ b, b < w3.heap.size → b < w1.heap.size → w4.heap[b]? = w3.heap[b]? ∧ b < w1.heap.size ∧ b < w4.heap.size := fun b h1 h2 =>
      ⟨wr4.block b h1 (fun hm => by have := KG.out.2.2 _ hm; omega), h2, by have := wr4.size; omega⟩
    replace H0 := Lib.hid (H0.out.keep (S' := fun b => b < w1.heap.size) hkeep _ _)
    have MG := Lib.hid (show D.At w4 anyB (D.mark 1 (rows Tok.ds 3 L)) v1 from D.Sep.at_ _ _ _ (fun _ _ => trivial) sg)
    clear sg wr4 hkeep KG B3
    go_wp2_with fail
    refine (heldTokenS_w L _ 1 _ _ (by rfl) (by omega) HC.out MG.out).mono ?_
    rintro e w5 ⟨m5, hm5, rfl, b5⟩
    obtain rfl : m5 = m4 := by have := HM.out; omega
    clear hm5
    have hm2 : ¬ ((m5 : Int) < 0) := by omega
    have B5 := B4.trans (b5.mono B4.size)
    replace H0 := Lib.hid (H0.out.below b5)
    replace MG := Lib.hid (MG.out.below b5)
    clear b5 B4
    go_wp2_with fail
    refine (HTI.out _).mono ?_
    rintro e w6 ⟨v2, rfl, at6, b6⟩
    have B6 := B5.trans (b6.mono B5.size)
    replace H0 := Lib.hid (H0.out.below b6)
    replace MG := Lib.hid (MG.out.below b6)
    have G6 := Lib.hid at6.at_
    clear at6 b6 B5
    go_wp2_with fail
    refine (eqTokenS_w L L (fun x _ => eqToken_w x) v2 v0 _ G6.out H0.out.any_).mono ?_
    rintro e w7 ⟨rfl, b7⟩
    have B7 := B6.trans (b7.mono B6.size)
    replace MG := Lib.hid (MG.out.below b7)
    have hrefl : pairs Tok.same L L = true := pairs_refl (q := Tok.same) (fun x _ => Tok.same_refl x)
    rw [hrefl]
    clear b7 B6 G6 H0
    go_wp2_with fail
    refine (heldTokenS_w L _ 1 _ _ (by rfl) (by omega) HC.out MG.out).mono ?_
    rintro e w8 ⟨m8, hm8, rfl, b8⟩
    obtain rfl : m8 = m5 := by have := HM.out; omega
    clear hm8
    have B8 := B7.trans (b8.mono B7.size)
    clear b8 B7
    go_wp2
    go_ret
    exact ⟨rfl, B8⟩
  · have hi : (1048576 : Int) < (s.size : Int) := by omega
    go_enter Try.func3, Try.ntmps3
    go_wp2
    go_ret
    exact ⟨rfl, Below.refl _ _⟩
end Go.Proofs.Ytofihcahimdbhaa
