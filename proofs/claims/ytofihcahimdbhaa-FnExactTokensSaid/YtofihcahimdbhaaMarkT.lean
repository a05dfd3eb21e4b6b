/- The law's own marks: the text of a mark; a row of texts marked, and held against its marks. -/
import Derived.Test.YtofihcahimdbhaaCore
import Derived.Test.YtofihcahimdbhaaSep
import Derived.Test.YtofihcahimdbhaaStrs
namespace Go.Proofs.Ytofihcahimdbhaa
open Go.RowKit

theorem one_string (w : World) (c : UInt8) (y : Int) (hy : (c.toNat : Int) = y) (g : Nat) (hg : w.heap.size = g) :
    (convert 45 9 (.slice (some ⟨g, 0, none⟩) 1 1)).run Try.prog (w.alloc (.cells #[.int .u8 y] 5)) = .ok (.string ⟨#[c]⟩) (w.alloc (.cells #[.int .u8 y] 5)) := by
  subst hy hg
  have := own_string (w := w.alloc (.cells #[.int .u8 (c.toNat : Int)] 5)) (base := 0) (v := .slice (some ⟨w.heap.size, 0, none⟩) 1 1) (n := 1) (l := [c])
    (World.ownsRow_lit _ _ _ (Nat.zero_le _) (by decide) (by rfl))
  exact this
theorem pow_small {q f : Nat} (h : q < 10 ^ f) (h0 : 0 < q) : ∃ f', f = f' + 1 ∧ q / 10 < 10 ^ f' := by
  cases f with
  | zero => simp at h; omega
  | succ f => exact ⟨f, rfl, by rw [Nat.div_lt_iff_lt_mul (by omega), ← Nat.pow_succ]; exact h⟩
set_option maxHeartbeats 1000000 in
set_option maxRecDepth 20000 in
theorem markText_w (k : Nat) (h0 : 1 ≤ k) (hk : k ≤ 1000000000000000000) (w : World) : Calls Try.prog 13 #[.int .i64 k] w fun e w' => e = .returned (.string (markT k)) ∧ Below w.heap.size w w' := by
  have hk0 : ¬ ((k : Int) ≤ 0) := by omega
  go_enter Try.func13, Try.ntmps13
  go_wp2
  go_loopw [0, 3] (fun kk out wr => ∃ (f q : Nat) (T : ByteArray), kk = .int .i64 q ∧ out = .string T ∧ q < 10 ^ f ∧ q ≤ k ∧ T.size + f ≤ 20 ∧ markD f q T.data.toList = markD 20 k [] ∧ Below w.heap.size w wr) (fun kk _ _ => (intOf kk).toNat)
  case atStart => exact ⟨20, k, ⟨#[]⟩, rfl, rfl, by omega, Nat.le_refl _, by decide, rfl, Below.refl _ _⟩
  case round =>
    obtain ⟨f, q, T, rfl, rfl, hf, hqk, hT, hm, hb⟩ := hrel
    have hbs := hb.size
    by_cases hq : 0 < q
    · obtain ⟨f', rfl, hf'⟩ := pow_small hf hq
      have hqi : (0 : Int) < (q : Int) := by omega
      have hcv := one_string wr (UInt8.ofNat (48 + q % 10)) (48 + (q : Int) % 10) (by simp; omega) wr.heap.size rfl
      have HM := Lib.hid hm
      have HF := Lib.hid (And.intro hf' hf)
      clear hm hf' hf
      go_wp2
      go_roundw
      case rel =>
        refine ⟨f', q / 10, ⟨#[UInt8.ofNat (48 + q % 10)]⟩ ++ T, by go_num, by simp, HF.out.1, by omega, ?_, ?_, hb.alloc hbs _⟩
        · rw [ByteArray.size_append]
          show 1 + T.size + f' ≤ 20
          omega
        · rw [← HM.out]
          conv => rhs; unfold markD
          rw [if_neg (by omega)]
          simp
      case measure => simp [intOf]; omega
    · obtain rfl : q = 0 := by omega
      have HM := Lib.hid hm
      clear hm hf
      go_wp2
      go_ret
      refine ⟨ret_eq ?_, hb⟩
      have h := HM.out
      have e : markD f 0 T.data.toList = T.data.toList := by cases f with | zero => rfl | succ f => unfold markD; rw [if_pos rfl]
      rw [e] at h
      unfold markT
      rw [if_neg (by omega), ← h]
      exact congrArg Value.string (ByteArray.ext (by simp))
end Go.Proofs.Ytofihcahimdbhaa
