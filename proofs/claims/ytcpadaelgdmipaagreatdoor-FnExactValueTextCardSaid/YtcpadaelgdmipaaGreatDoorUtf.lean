/- Code points: the reference's text of one. -/
import Derived.Test.YtcpadaelgdmipaaGreatDoorNums
import Derived.Test.YtcpadaelgdmipaaGreatDoorBits
import Derived.Below
import Derived.Test.YtcpadaelgdmipaaGreatDoorStrs
namespace Go.Proofs.YtcpadaelgdmipaaGreatDoor
open Go.RowKit

def chr (n : Nat) : List UInt8 :=
  if n < 128 then [UInt8.ofNat n]
  else if n < 2048 then [UInt8.ofNat (192 + n / 64), UInt8.ofNat (128 + n % 64)]
  else if n < 65536 then [UInt8.ofNat (224 + n / 4096), UInt8.ofNat (128 + n / 64 % 64), UInt8.ofNat (128 + n % 64)]
  else [UInt8.ofNat (240 + n / 262144), UInt8.ofNat (128 + n / 4096 % 64), UInt8.ofNat (128 + n / 64 % 64), UInt8.ofNat (128 + n % 64)]
def chrT (n : Nat) : ByteArray := ⟨(chr n).toArray⟩
theorem row_string (w : World) (g : Nat) (l : List UInt8) (m : Nat) (hl : 0 < m ∧ m ≤ 4) (hm : l.length = m) (cs : Array Value) (hcs : (l.map bv).toArray = cs) (h : w.heap[g]? = some (.cells cs 5 (0, 0))) :
    (convert 113 9 (.slice (some ⟨g, 0, none⟩) m m)).run Tryz.prog w = .ok (.string ⟨l.toArray⟩) w := by
  subst hcs
  subst hm
  exact own_string (w := w) (base := 0) (v := .slice (some ⟨g, 0, none⟩) l.length l.length) (n := l.length) (l := l) ⟨by simp, .inr ⟨g, l.length, (l.map bv).toArray, rfl, Nat.zero_le _, h, Nat.le_refl _, by unfold maxLen; omega, by simp, by simp [List.take_of_length_le]⟩⟩
theorem bv_ofNat {n : Nat} (h : n < 256) : bv (UInt8.ofNat n) = .int .u8 (n : Int) := by
  unfold bv
  rw [UInt8.toNat_ofNat_of_lt' (by simpa using h)]
theorem i64_and63 (n : Int) : bits .and .i64 n 63 = n % 64 := by
  have h63 : (BitVec.ofInt 64 63).toNat = 2 ^ 6 - 1 := by decide
  have key : (BitVec.ofInt 64 n &&& BitVec.ofInt 64 63).toNat = (n % ((2 ^ 64 : Nat) : Int)).toNat % 2 ^ 6 := by
    rw [BitVec.toNat_and, BitVec.toNat_ofInt, h63, Nat.and_two_pow_sub_one_eq_mod]
  show IntKind.i64.wrap ((BitVec.ofInt 64 n &&& BitVec.ofInt 64 63).toNat : Nat) = n % 64
  rw [key, IntKind.wrap_i64]
  omega
set_option maxHeartbeats 1000000 in
set_option maxRecDepth 20000 in
theorem l04Char_s (n : Nat) (hn : n ≤ 1114111) (w : World) : Calls Tryz.prog 113 #[.int .i64 n] w fun e w' => e = .returned (.string (chrT n)) ∧ Below w.heap.size w w' := by
  have B := fun o => (Below.refl w.heap.size w).alloc (Nat.le_refl _) o
  have hand := i64_and63 (n : Int)
  have hand1 := i64_and63 ((n : Int) / 64)
  have hand2 := i64_and63 ((n : Int) / 4096)
  obtain ⟨R, hR⟩ : ∃ R, chrT n = R := ⟨_, rfl⟩
  by_cases h1 : n < 128
  · have i1 : (n : Int) < 128 := by omega
    have hcv : (convert 113 9 (.slice (some ⟨w.heap.size, 0, none⟩) 1 1)).run Tryz.prog (w.alloc (.cells #[.int .u8 ((n : Int))] 5)) = .ok (.string R) (w.alloc (.cells #[.int .u8 ((n : Int))] 5)) := by
      rw [← hR, show chrT n = ⟨([UInt8.ofNat (n)] : List UInt8).toArray⟩ by simp only [chrT, chr, if_pos h1]]
      exact row_string _ w.heap.size [UInt8.ofNat (n)] 1 (by omega) rfl _ (by simp only [List.map_cons, List.map_nil, bv_ofNat (show n < 256 by omega)]; try simp) (heap_alloc_new w _)
    have HR := Lib.hid hR
    clear hR
    go_enter Tryz.func113, Tryz.ntmps113
    go_wp2
    go_ret
    exact ⟨ret_eq (by rw [HR.out]; try rfl), B _⟩
  have i1 : ¬ (n : Int) < 128 := by omega
  by_cases h2 : n < 2048
  · have i2 : (n : Int) < 2048 := by omega
    have hcv : (convert 113 9 (.slice (some ⟨w.heap.size, 0, none⟩) 2 2)).run Tryz.prog (w.alloc (.cells #[.int .u8 (192 + (n : Int) / 64), .int .u8 (128 + (n : Int) % 64)] 5)) = .ok (.string R) (w.alloc (.cells #[.int .u8 (192 + (n : Int) / 64), .int .u8 (128 + (n : Int) % 64)] 5)) := by
      rw [← hR, show chrT n = ⟨([UInt8.ofNat (192 + n / 64), UInt8.ofNat (128 + n % 64)] : List UInt8).toArray⟩ by simp only [chrT, chr, if_neg h1, if_pos h2]]
      exact row_string _ w.heap.size [UInt8.ofNat (192 + n / 64), UInt8.ofNat (128 + n % 64)] 2 (by omega) rfl _ (by simp only [List.map_cons, List.map_nil, bv_ofNat (show 192 + n / 64 < 256 by omega), bv_ofNat (show 128 + n % 64 < 256 by omega)]; try simp) (heap_alloc_new w _)
    have HR := Lib.hid hR
    clear hR
    go_enter Tryz.func113, Tryz.ntmps113
    go_wp2
    go_ret
    exact ⟨ret_eq (by rw [HR.out]; try rfl), B _⟩
  have i2 : ¬ (n : Int) < 2048 := by omega
  by_cases h3 : n < 65536
  · have i3 : (n : Int) < 65536 := by omega
    have hcv : (convert 113 9 (.slice (some ⟨w.heap.size, 0, none⟩) 3 3)).run Tryz.prog (w.alloc (.cells #[.int .u8 (224 + (n : Int) / 4096), .int .u8 (128 + (n : Int) / 64 % 64), .int .u8 (128 + (n : Int) % 64)] 5)) = .ok (.string R) (w.alloc (.cells #[.int .u8 (224 + (n : Int) / 4096), .int .u8 (128 + (n : Int) / 64 % 64), .int .u8 (128 + (n : Int) % 64)] 5)) := by
      rw [← hR, show chrT n = ⟨([UInt8.ofNat (224 + n / 4096), UInt8.ofNat (128 + n / 64 % 64), UInt8.ofNat (128 + n % 64)] : List UInt8).toArray⟩ by simp only [chrT, chr, if_neg h1, if_neg h2, if_pos h3]]
      exact row_string _ w.heap.size [UInt8.ofNat (224 + n / 4096), UInt8.ofNat (128 + n / 64 % 64), UInt8.ofNat (128 + n % 64)] 3 (by omega) rfl _ (by simp only [List.map_cons, List.map_nil, bv_ofNat (show 224 + n / 4096 < 256 by omega), bv_ofNat (show 128 + n / 64 % 64 < 256 by omega), bv_ofNat (show 128 + n % 64 < 256 by omega)]; try simp) (heap_alloc_new w _)
    have HR := Lib.hid hR
    clear hR
    go_enter Tryz.func113, Tryz.ntmps113
    go_wp2
    go_ret
    exact ⟨ret_eq (by rw [HR.out]; try rfl), B _⟩
  have i3 : ¬ (n : Int) < 65536 := by omega
  have hcv : (convert 113 9 (.slice (some ⟨w.heap.size, 0, none⟩) 4 4)).run Tryz.prog (w.alloc (.cells #[.int .u8 (240 + (n : Int) / 262144), .int .u8 (128 + (n : Int) / 4096 % 64), .int .u8 (128 + (n : Int) / 64 % 64), .int .u8 (128 + (n : Int) % 64)] 5)) = .ok (.string R) (w.alloc (.cells #[.int .u8 (240 + (n : Int) / 262144), .int .u8 (128 + (n : Int) / 4096 % 64), .int .u8 (128 + (n : Int) / 64 % 64), .int .u8 (128 + (n : Int) % 64)] 5)) := by
    rw [← hR, show chrT n = ⟨([UInt8.ofNat (240 + n / 262144), UInt8.ofNat (128 + n / 4096 % 64), UInt8.ofNat (128 + n / 64 % 64), UInt8.ofNat (128 + n % 64)] : List UInt8).toArray⟩ by simp only [chrT, chr, if_neg h1, if_neg h2, if_neg h3]]
    exact row_string _ w.heap.size [UInt8.ofNat (240 + n / 262144), UInt8.ofNat (128 + n / 4096 % 64), UInt8.ofNat (128 + n / 64 % 64), UInt8.ofNat (128 + n % 64)] 4 (by omega) rfl _ (by simp only [List.map_cons, List.map_nil, bv_ofNat (show 240 + n / 262144 < 256 by omega), bv_ofNat (show 128 + n / 4096 % 64 < 256 by omega), bv_ofNat (show 128 + n / 64 % 64 < 256 by omega), bv_ofNat (show 128 + n % 64 < 256 by omega)]; try simp) (heap_alloc_new w _)
  have HR := Lib.hid hR
  clear hR
  go_enter Tryz.func113, Tryz.ntmps113
  go_wp2
  go_ret
  exact ⟨ret_eq (by rw [HR.out]; try rfl), B _⟩
end Go.Proofs.YtcpadaelgdmipaaGreatDoor
