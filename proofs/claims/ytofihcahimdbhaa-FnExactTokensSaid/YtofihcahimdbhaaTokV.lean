/- Tokens: by the reference: the whole. -/
import Derived.Test.YtofihcahimdbhaaTokU
namespace Go.Proofs.Ytofihcahimdbhaa
open Go.RowKit Go.PlainAid

theorem toksF_code (s : ByteArray) (f k : Nat) (q : Int) (acc : List Tok) : ((toksF s f k q acc).2.2 = 0 → (toksF s f k q acc).2.1 = 0) ∧ ((toksF s f k q acc).2.2 ≠ 0 → (toksF s f k q acc).1 = []) := by
  induction f generalizing k q acc with
  | zero => simp [toksF]
  | succ f ih =>
    rw [toksF]
    split
    · split
      · simp
      · split
        · simp
        · exact ih _ _ _
    · simp
theorem tokensR_code (s : ByteArray) : ((tokensR s).2.2 = 0 → (tokensR s).2.1 = 0) ∧ ((tokensR s).2.2 ≠ 0 → (tokensR s).1 = []) := by
  unfold tokensR
  split
  · exact toksF_code _ _ _ _ _
  · simp
set_option maxHeartbeats 2000000 in
set_option maxRecDepth 20000 in
theorem Tokens_s (s : ByteArray) (hs : s.size ≤ 1048576) (w : World) : Calls Try.prog 4 #[.string s] w (RetTk (tokensR s) w) := by
  have hC := tokensR_code s
  have HR := Lib.hid (fun W => l05Tokens_s s hs W)
  obtain ⟨R, hR⟩ : ∃ R, tokensR s = R := ⟨_, rfl⟩
  rw [hR] at HR hC
  rw [hR]
  clear hR
  obtain ⟨L, q, c⟩ := R
  simp only at hC
  have HC := Lib.hid hC
  clear hC
  go_enter Try.func4, Try.ntmps4
  go_wp2_with fail
  refine (HR.out _).mono ?_
  rintro e w1 ⟨v, rfl, hv, hb⟩
  have HV := Lib.hid hv
  have HB := Lib.hid hb
  clear hv hb
  by_cases hc : c = 0
  · subst hc
    have hq : q = 0 := HC.out.1 rfl
    subst hq
    go_wp2
    exact bodyPost_ret (v := .tuple #[v, .int .i64 0, .int .i64 0]) (by simp [results, Try.results4, go_sem]) rfl ⟨v, rfl, HV.out, HB.out⟩
  · have hL : L = [] := HC.out.2 hc
    subst hL
    have hc0 : ((c : Int) == 0) = false := beq_eq_false_iff_ne.2 hc
    have hb1 := HB.out.size
    go_wp2
    exact bodyPost_ret (v := .tuple #[.slice (some ⟨w1.heap.size, 0, none⟩) 0 0, .int .i64 q, .int .i64 c]) (by simp [results, Try.results4, go_sem]) rfl ⟨_, rfl, ⟨by simp; omega, [], D.Sep.empty (by omega), List.nodup_nil, fun b hb => by cases hb⟩, HB.out.alloc hb1 _⟩
end Go.Proofs.Ytofihcahimdbhaa
