/- TokensText: the law. -/
import Derived.Test.YtokppmhihghapaaTokensText
namespace Go.Proofs.Ytokppmhihghapaa
open Go.RowKit Go.ChangeShapes Go.WideShapes

set_option maxHeartbeats 1000000 in
set_option maxRecDepth 20000 in
theorem law_FnExactTokensText {H : Type} {enc : TypeId × Value → H} {b0 : Nat} {w : World} (v : Value) (d : DataW H) (p : List MemPlace) (hv : Value.okWide Try.prog w .any b0 40 v)
    (h : DataW.Trod enc Try.prog w 0 (fun _ => true) true 40 v d p) :
    Calls Try.prog 8 #[v] w fun e w' => e = .returned (.bool true) ∧ Below w.heap.size w w' := by
  obtain ⟨l, hx⟩ := TokenS_arg hv h
  clear hv h
  obtain ⟨A, cap, rfl, -, -⟩ := rows_form Tok.len hx
  have HX := Lib.hid hx
  clear hx
  go_enter Try.func8, Try.ntmps8
  go_wp2_with fail
  refine (szTokenS_w l (fun x _ => szToken_w x) _ _ _ HX.out (by omega) (by omega)).mono ?_
  rintro e w1 ⟨rfl, B1⟩
  by_cases hle : ((rows Tok.ds 3 l).total : Int) ≤ 1048576
  · rw [left_yes hle]
    have hg : ¬ (1048576 - ((rows Tok.ds 3 l).total : Int) < 0) := by omega
    go_wp2_with fail
    refine (toTokenS_w l (fun x _ => toToken_w x) _ _ (HX.out.below B1) (by omega)).mono ?_
    rintro e w3 ⟨r3, rfl, q3, hb3⟩
    obtain ⟨A3, c3, rfl, -, -⟩ := rows_form Tok.len q3
    have B3 := B1.trans (hb3.mono B1.size)
    have Q3 := Lib.hid (q3.weaken (S' := anyB) (fun _ _ => trivial))
    clear q3 B1 hb3
    go_wp2_with fail
    refine (tokensText_s l _ _ Q3.out (by omega)).mono ?_
    rintro e w5 ⟨rfl, hb5⟩
    have B5 := B3.trans (hb5.mono B3.size)
    clear B3 hb5 Q3
    go_wp2_with fail
    refine (toTokenS_w l (fun x _ => toToken_w x) _ _ (HX.out.below B5) (by omega)).mono ?_
    rintro e w6 ⟨r6, rfl, q6, hb6⟩
    obtain ⟨A6, c6, rfl, -, -⟩ := rows_form Tok.len q6
    have B6 := B5.trans (hb6.mono B5.size)
    have Q6 := Lib.hid (q6.weaken (S' := anyB) (fun _ _ => trivial))
    clear q6 B5 hb6
    go_wp2_with fail
    refine (tokensText_i l _ _ Q6.out (by omega)).mono ?_
    rintro e w8 ⟨rfl, hb8⟩
    have B8 := B6.trans (hb8.mono B6.size)
    have Q8 := Lib.hid (Q6.out.below hb8)
    clear B6 hb8 Q6
    generalize tokT l = T at *
    go_wp2_with fail
    refine (toTokenS_w l (fun x _ => toToken_w x) _ _ (HX.out.below B8) (by omega)).mono ?_
    rintro e w9 ⟨r9, rfl, q9, hb9⟩
    obtain ⟨A9, c9, rfl, -, -⟩ := rows_form Tok.len q9
    have B9 := B8.trans (hb9.mono B8.size)
    have Q9 := Lib.hid (And.intro (Q8.out.below hb9) (q9.weaken (S' := anyB) (fun _ _ => trivial)))
    clear q9 B8 hb9 Q8
    go_wp2_with fail
    refine (eqTokenS_w l l (fun x _ => eqToken_w x) _ _ _ Q9.out.1 Q9.out.2).mono ?_
    rintro e wa ⟨rfl, hba⟩
    have Ba := B9.trans (hba.mono B9.size)
    clear B9 hba Q9
    rw [pairs_refl (q := Tok.same) (l := l) (fun x _ => Tok.same_refl x)]
    go_wp2
    go_ret
    exact ⟨rfl, Ba⟩
  · rw [left_no hle]
    go_wp2
    go_ret
    exact ⟨rfl, B1⟩
end Go.Proofs.Ytokppmhihghapaa
