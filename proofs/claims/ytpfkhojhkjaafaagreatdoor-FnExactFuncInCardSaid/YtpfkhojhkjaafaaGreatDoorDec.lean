/- Decimal digits and the text of a version's number: by the reference and by the program. -/
import Derived.Test.YtpfkhojhkjaafaaGreatDoorNums
import Derived.Test.YtpfkhojhkjaafaaGreatDoorShelf
import Derived.Lib.ItoaMem
import Derived.Lib.ItoaLen
import Derived.WalkSmall
namespace Go.Proofs.YtpfkhojhkjaafaaGreatDoor
open Go.RowKit Go.Shelf

def decT (n : Nat) : ByteArray := ⟨(Lib.decDigits n).toArray⟩
theorem decT_list (n : Nat) : (decT n).data.toList = Lib.decDigits n := by simp [decT]
theorem decT_size (n : Nat) (h : n ≤ 9223372036854775807) : (decT n).size ≤ 21 := by
  have := Lib.itoa_length_le (n : Int) (by omega) (by omega)
  rw [Lib.itoa_nonneg] at this
  simpa [decT, ByteArray.size] using this
theorem decT_small {n : Nat} (h : n < 10) : decT n = ⟨#[UInt8.ofNat (48 + n)]⟩ := by
  unfold decT
  rw [Lib.decDigits, dif_pos h]
theorem decT_big {n : Nat} (h : ¬ n < 10) : decT n = decT (n / 10) ++ ⟨#[UInt8.ofNat (48 + n % 10)]⟩ := by
  refine ByteArray.ext ?_
  unfold decT
  rw [Lib.decDigits, dif_neg h]
  simp
theorem byte_string (w : World) (g : Nat) (c : UInt8) (y : Int) (hy : (c.toNat : Int) = y) (h : w.heap[g]? = some (.cells #[.int .u8 y] 5 (0, 0))) :
    (convert 164 9 (.slice (some ⟨g, 0, none⟩) 1 1)).run Tryz.prog w = .ok (.string ⟨#[c]⟩) w := by
  subst hy
  exact own_string (w := w) (base := 0) (v := .slice (some ⟨g, 0, none⟩) 1 1) (n := 1) (l := [c]) ⟨by simp, .inr ⟨g, 1, #[.int .u8 (c.toNat : Int)], rfl, Nat.zero_le _, h, Nat.le_refl _, by decide, rfl, rfl⟩⟩
set_option maxHeartbeats 1000000 in
set_option maxRecDepth 20000 in
theorem l02Dec_s (n : Nat) (hn : n ≤ 9223372036854775807) (w : World) : Calls Tryz.prog 112 #[.int .i64 n] w fun e w' => e = .returned (.string (decT n)) ∧ Below w.heap.size w w' := by
  induction n using Nat.strongRecOn generalizing w with
  | ind n ih =>
    by_cases h : n < 10
    · have hi : (n : Int) < 10 := by omega
      have hcv := byte_string (w.alloc (.cells #[.int .u8 (48 + (n : Int))] 5)) w.heap.size (UInt8.ofNat (48 + n)) (48 + (n : Int)) (by simp; omega) (heap_alloc_new w _)
      have HD := Lib.hid (decT_small h)
      clear ih
      go_enter Tryz.func112, Tryz.ntmps112
      go_wp2
      go_ret
      exact ⟨ret_eq (by rw [HD.out]; simp), (Below.refl _ _).alloc (Nat.le_refl _) _⟩
    · have hi : ¬ (n : Int) < 10 := by omega
      have HD := Lib.hid (decT_big h)
      have hs := decT_size (n / 10) (by omega)
      have HI := Lib.hid (fun w => ih (n / 10) (by omega) (by omega) w)
      clear ih
      obtain ⟨D, hDd⟩ : ∃ D, decT (n / 10) = D := ⟨_, rfl⟩
      rw [hDd] at hs HD HI
      obtain ⟨a, ha⟩ : ∃ a : Nat, n / 10 = a := ⟨_, rfl⟩
      obtain ⟨b, hb⟩ : ∃ b : Nat, n % 10 = b := ⟨_, rfl⟩
      obtain ⟨c, hc⟩ : ∃ c : Nat, 48 + b = c := ⟨_, rfl⟩
      have hq1 : ¬ 9223372036854775807 < D.size + 1 := by omega
      have hw1 : IntKind.i64.wrap ((n : Int) / 10) = (a : Int) := by rw [IntKind.wrap_i64]; omega
      have hw2 : (n : Int).tmod 10 = (b : Int) := by rw [Int.tmod_eq_emod_of_nonneg (by omega)]; omega
      have hw3 : IntKind.i64.wrap (48 + (b : Int)) = (c : Int) := by rw [IntKind.wrap_i64]; omega
      have hw4 : IntKind.u8.wrap (c : Int) = (c : Int) := by rw [IntKind.wrap_u8]; omega
      have hy : ((UInt8.ofNat c).toNat : Int) = (c : Int) := by
        have : c < 256 := by omega
        simp; omega
      rw [ha] at HI
      rw [hb, hc] at HD
      have HY := Lib.hid hy
      have hcv0 := byte_string (w.alloc (.cells #[.int .u8 (c : Int)] 5)).drew w.heap.size (UInt8.ofNat c) (c : Int) hy (heap_alloc_new w _)
      clear hDd ha hb hc hy h
      go_enter Tryz.func112, Tryz.ntmps112
      go_wp2_with fail
      go_region_with (go_at_call 112; ((refine (HI.out _).mono ?_); rintro e w1 ⟨rfl, hb1⟩; have hcv1 := byte_string (w1.alloc (.cells #[.int .u8 (c : Int)] 5)) w1.heap.size (UInt8.ofNat c) (c : Int) HY.out (heap_alloc_new w1 _); (first | have hcv2 := byte_string w1 w.heap.size (UInt8.ofNat c) (c : Int) HY.out ((hb1.block _ (by simp)).trans (heap_alloc_new w _)) | skip)))
      all_goals
        have B : Below w.heap.size w w1 := (by first | exact (Below.refl _ w).drew.trans hb1 | exact (((Below.refl _ w).alloc (Nat.le_refl _) _).drew).trans (hb1.mono (by simp)))
        have HB := Lib.hid B
        clear hcv1 hcv0 hb1 B
        go_wp2
        go_ret
        first | exact ⟨ret_eq (congrArg Value.string HD.out.symm), HB.out⟩ | exact ⟨ret_eq (congrArg Value.string HD.out.symm), HB.out.alloc HB.out.size _⟩
end Go.Proofs.YtpfkhojhkjaafaaGreatDoor
