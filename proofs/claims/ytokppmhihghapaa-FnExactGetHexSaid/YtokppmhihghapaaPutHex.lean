/- PutHex: what the program's and the reference's function compute, and the law. -/
import Derived.Test.YtokppmhihghapaaNums
import Derived.Test.YtokppmhihghapaaStrs
namespace Go.Proofs.Ytokppmhihghapaa
open Go.RowKit Go.PlainAid

/-- A digit of sixteen. -/
def hexd (n : Nat) : UInt8 := if n < 10 then UInt8.ofNat (48 + n) else UInt8.ofNat (87 + n)
def hexs : List UInt8 → List UInt8
  | [] => []
  | c :: r => hexd (c.toNat / 16) :: hexd (c.toNat % 16) :: hexs r
theorem hexs_snoc (l : List UInt8) (c : UInt8) : hexs (l ++ [c]) = hexs l ++ [hexd (c.toNat / 16), hexd (c.toNat % 16)] := by
  induction l with
  | nil => rfl
  | cons d r ih => simp [hexs, ih]
theorem hexs_len (l : List UInt8) : (hexs l).length = 2 * l.length := by
  induction l with
  | nil => rfl
  | cons d r ih => simp [hexs, ih]; omega

theorem hex_digits : ∀ (n : Nat) (h : n < (ByteArray.mk #[48, 49, 50, 51, 52, 53, 54, 55, 56, 57, 97, 98, 99, 100, 101, 102]).size), (((ByteArray.mk #[48, 49, 50, 51, 52, 53, 54, 55, 56, 57, 97, 98, 99, 100, 101, 102])[n]'h).toNat : Int) = ((hexd n).toNat : Int) := by
  intro n h
  have key : ∀ m : Fin 16, (((#[48, 49, 50, 51, 52, 53, 54, 55, 56, 57, 97, 98, 99, 100, 101, 102] : Array UInt8)[m.val]'m.isLt).toNat : Int) = ((hexd m.val).toNat : Int) := by decide
  exact key ⟨n, h⟩

set_option maxHeartbeats 400000 in
theorem putHex_i (s : ByteArray) (hs : s.size ≤ 70368744177663) (w : World) :
    Calls Try.prog 64 #[.string s] w fun e w' => e = .returned (.string ⟨(hexs s.data.toList).toArray⟩) ∧ Below w.heap.size w w' := by
  have hbt := get_bt s
  go_enter Try.func64, Try.ntmps64
  go_wp2
  go_loopw [3, 4, 8] (fun b _ i wr => ∃ k : Nat, k ≤ s.size ∧ i = .int .i64 k ∧ wr.ownsRow w.heap.size 5 1 b (hexs (s.data.toList.take k)).length ((hexs (s.data.toList.take k)).map bv) ∧ Below w.heap.size w wr) (fun _ _ i _ => s.size - (intOf i).toNat)
  case atStart => exact ⟨0, Nat.zero_le _, rfl, World.ownsRow_lit _ _ _ (Nat.le_refl _) (by simp) (by simp), (Below.refl _ _).alloc (Nat.le_refl _) _⟩
  case round =>
    obtain ⟨k, hk, rfl, hown, hb⟩ := hrel
    by_cases hlt : k < s.size
    · have hb0 := bt_nonneg s k
      have hb1 := bt_le s k
      have hlen : (hexs (s.data.toList.take k)).length = 2 * k := by rw [hexs_len, take_len s k hk]
      have hll : (hexs (s.data.toList.take k)).length + 2 ≤ 140737488355328 := by omega
      clear hlen
      have hand := u8_and15 (bt s k) hb0 (by omega)
      have hk0 : (0 : Int) ≤ (k : Int) := by omega
      have hk1 : (k : Int) < (s.size : Int) := by omega
      go_wp2_with fail
      have hd : wr.drew.heap.size = wr.heap.size := rfl
      have q1 : IntKind.u8.wrap ((bt s k).tdiv 16) = bt s k / 16 := by rw [Int.tdiv_eq_ediv_of_nonneg hb0, IntKind.wrap_u8]; omega
      have q2 : (bt s k).tmod 16 = bt s k % 16 := Int.tmod_eq_emod_of_nonneg hb0
      have r1 : 0 ≤ bt s k / 16 := by omega
      have r2 : bt s k / 16 < 16 := by omega
      have r3 : 0 ≤ bt s k % 16 := by omega
      have r4 : bt s k % 16 < 16 := by omega
      have hST := hex_digits
      go_region_law (first
        | (refine step_byte2 (w1 := wr.drew) hown (hexd (bt s k / 16).toNat) (hexd (bt s k % 16).toNat) rfl rfl (.tmp 11) (.tmp 22) hll hb.size ?_; intro v' w' ho' hb'))
      all_goals
        go_wp2
        go_roundw
        case rel =>
          have hx : hexs (s.data.toList.take (k + 1)) = hexs (s.data.toList.take k) ++ [hexd (bt s k / 16).toNat, hexd (bt s k % 16).toNat] := by
            rw [take_snoc s k hlt, hexs_snoc]
            have e := hbt k hlt
            congr 3
            · omega
            · congr 1; omega
          refine ⟨k + 1, by omega, by go_num, ?_, hb.trans ⟨hb'.os, hb'.tape, hb'.output, hb'.size, hb'.block⟩⟩
          rw [hx]
          simpa using ho'
        case measure => simp [intOf]; omega
    · have hcv := own_string hown
      go_wp2
      go_ret
      refine ⟨?_, hb⟩
      rw [take_all s k (by omega)]
      rfl
end Go.Proofs.Ytokppmhihghapaa
