/- slices.Repeat at one type, up to eight times over. -/
import Derived.Test.YtofihcahimdbhaaGreatDoorRepP
import Derived.Deep.RegionLaw
import Derived.Deep.DeepCutAuto
namespace Go.Proofs.YtofihcahimdbhaaGreatDoor
open Go.RowKit

theorem and_le8 (c : Nat) (h : c ≤ 8) : bits .and .u64 (c : Int) 4294967295 = (c : Int) := by
  have : ∀ c : Fin 9, bits .and .u64 ((c.val : Nat) : Int) 4294967295 = ((c.val : Nat) : Int) := by decide +kernel
  exact this ⟨c, by omega⟩
set_option maxRecDepth 20000 in
theorem mul64_1c (c : Nat) (h : c ≤ 8) (w : World) : Calls Tryz.prog 209 #[.int .u64 1, .int .u64 c] w fun e w' => e = .returned (.tuple #[.int .u64 0, .int .u64 c]) ∧ w = w' := by
  have a1 := and_le8 1 (by decide)
  have ac := and_le8 c h
  obtain rfl | rfl | rfl | rfl | rfl | rfl | rfl | rfl | rfl : c = 0 ∨ c = 1 ∨ c = 2 ∨ c = 3 ∨ c = 4 ∨ c = 5 ∨ c = 6 ∨ c = 7 ∨ c = 8 := by omega
  all_goals
    go_enter Tryz.func209, Tryz.ntmps209
    go_wp2
    go_ret2
    exact ⟨rfl, rfl⟩
set_option maxRecDepth 20000 in
theorem mul_1c (c : Nat) (h : c ≤ 8) (w : World) : Calls Tryz.prog 192 #[.int .u64 1, .int .u64 c] w fun e w' => e = .returned (.tuple #[.int .u64 0, .int .u64 c]) ∧ w = w' := by
  go_enter Tryz.func192, Tryz.ntmps192
  go_wp2_with (go_at_call 209; refine (mul64_1c c h _).mono ?_; rintro e w1 ⟨rfl, rfl⟩)
  go_ret2
  exact ⟨rfl, rfl⟩
theorem info_kT : (Tryz.prog.info? 30).map (fun i => (i.zero, i.size, i.bytes)) = some (some (.agg #[.int .i64 0, .string ⟨#[]⟩, .slice none 0 0, .slice none 0 0]), 4, 72) := by kernel_rfl
set_option maxHeartbeats 1000000 in
set_option maxRecDepth 20000 in
theorem repeat_i {S : Nat → Prop} (x : Ty) (A : Option Addr) (d c : Nat) (hc : c ≤ 8) (w : World) (hS : S w.heap.size) (hv : D.At w S (rows Ty.ds 4 [x]) (.slice A 1 d)) :
    Calls Tryz.prog 168 #[.slice A 1 d, .int .i64 c] w fun e w' => ∃ A' d', e = .returned (.slice A' c d') ∧ D.At w' S (rows Ty.ds 4 (List.replicate c x)) (.slice A' c d') ∧ Below w.heap.size w w' := by
  obtain ⟨i0, hi, hz0, hz1, hz2⟩ := info_parts info_kT
  obtain ⟨cur, hcs, hmk⟩ := make_fact (P := Tryz.prog) Tryz.underlying28 hi hz0 hz1 hz2 c (by omega) (by omega) w
  obtain ⟨b, off, us, hA, -, hbl, hx, hxl, hcell⟩ := rows_at (i := 0) (x := x) Ty.len hv rfl
  subst hA
  have hsrc : ∀ j v, us[j]? = some v → w.cell? ((⟨b, off, none⟩ : Addr).add j) = some v := fun j v h => by
    rw [Addr.add_lit]; have := hcell j v h; simpa using this
  have h1 : ∀ u ∈ us, u.oneCell' = true := by
    obtain ⟨k0, k1, k2, k3, k4, k5, k6, k7, rfl⟩ := Ty.form hx
    intro u hu
    simp at hu
    rcases hu with rfl | rfl | rfl | rfl <;> rfl
  have HX := Lib.hid hx
  have HH := Lib.hid (And.intro hi (And.intro hz1 (And.intro hsrc (And.intro h1 (And.intro hxl hS)))))
  have HT0 := Lib.hid (Times.start w cur 30 us c (by rw [hcs, hxl]))
  have hc0 : (0 : Int) ≤ (c : Int) := by omega
  obtain ⟨m0, hm0⟩ : ∃ m, Nat.min 1 c = m := ⟨_, rfl⟩
  have hm0c : m0 ≤ 1 ∧ m0 ≤ c := by rw [← hm0]; exact ⟨Nat.min_le_left _ _, Nat.min_le_right _ _⟩
  obtain ⟨cur0, q0, q1, q2⟩ := HT0.out.more m0 (by omega) 0 (by simp)
  have hcp : ∀ ty, (Builtin.copy_ #[28, 28] ty #[.slice (some ⟨w.heap.size, 0, none⟩) c c, .slice (some ⟨b, off, none⟩) 1 d]).run Tryz.prog (w.alloc (.cells cur 30)) = _ :=
    fun ty => run_copy_any (w.alloc (.cells cur 30)) _ _ ty 30 w.heap.size 0 c c ⟨b, off, none⟩ 1 d cur0 30 (timesL us m0) Tryz.underlying28 hi q0 (by rw [timesL_length, hxl, hz1, hm0]) (fun j v hj => by
      have hj1 : us[j]? = some v := by
        rcases (by omega : m0 = 0 ∨ m0 = 1) with e | e
        · rw [e, timesL_zero] at hj; simp at hj
        · rw [e, timesL_one] at hj; exact hj
      have := hsrc j v hj1
      rw [Addr.add_lit] at this ⊢
      rw [((Below.refl _ w).alloc (Nat.le_refl _) (.cells cur 30)).cell (p := ⟨b, off + j, none⟩) hbl]
      exact this) q1 (fun u hu => h1 u (timesL_mem hu))
  obtain ⟨wA, hwA⟩ : ∃ wA, wA = (w.alloc (.cells cur 30)).setRow w.heap.size (cur0.toList.take 0 ++ timesL us m0 ++ cur0.toList.drop (0 + (timesL us m0).length)).toArray := ⟨_, rfl⟩
  rw [← hwA] at q2
  simp only [← hwA, hm0] at hcp
  have HTA := Lib.hid q2
  have HCP := Lib.hid hcp
  clear hwA hcp q0 q1 q2 hi hz0 hz1 hz2 hcell hsrc h1 hx hxl hv hS HT0 hcs
  go_enter Tryz.func168, Tryz.ntmps168
  go_wp2_with (go_at_call 192; refine (mul_1c c hc _).mono ?_; rintro e w1 ⟨rfl, rfl⟩)
  rw [HCP.out]
  simp only [Result.andThen]
  rw [Oper.upon_value]
  clear hmk
  have HM := Lib.hid hm0
  clear hm0
  obtain ⟨g, hg⟩ : ∃ g, w.heap.size = g := ⟨_, rfl⟩
  have HG := Lib.hid hg
  rw [hg] at HTA HCP
  go_wp2
  clear hg
  go_loopw [8] (fun x8 wr => ∃ n : Nat, x8 = .int .i64 n ∧ Times w wr g 30 us c n ∧ (1 ≤ n ∨ n = c)) (fun x8 _ => c - (intOf x8).toNat)
  case atStart => exact ⟨m0, rfl, by have := HTA.out; rwa [Nat.zero_add] at this, by have := HM.out; rw [show Nat.min 1 c = min 1 c from rfl] at this; omega⟩
  case round =>
    obtain ⟨n, rfl, hT, hn1⟩ := hrel
    have hnc : n ≤ c := by obtain ⟨_, _, _, _, _, _, _, h⟩ := hT; exact h
    by_cases hlt : n < c
    · have i0 : (0 : Int) ≤ (n : Int) := by omega
      have i1 : (n : Int) < (c : Int) := by omega
      have i2 : (n : Int) ≤ (c : Int) := by omega
      obtain ⟨m, hm⟩ : ∃ m, Nat.min n (c - n) = m := ⟨_, rfl⟩
      have hmm : 1 ≤ m ∧ m ≤ n ∧ n + m ≤ c := by rw [← hm, show Nat.min n (c - n) = min n (c - n) from rfl]; omega
      obtain ⟨cur1, q0, q1, q2⟩ := hT.drew.more m hmm.2.2 (n * 4) (by rw [HH.out.2.2.2.2.1])
      have hcp : ∀ ty, (Builtin.copy_ #[28, 28] ty #[.slice (some ⟨g, n * 4, none⟩) (c - n) (c - n), .slice (some ⟨g, 0, none⟩) n c]).run Tryz.prog wr.drew = _ :=
        fun ty => run_copy_any wr.drew _ _ ty 30 g (n * 4) (c - n) (c - n) ⟨g, 0, none⟩ n c cur1 30 (timesL us m) Tryz.underlying28 HH.out.1 q0 (by rw [timesL_length, HH.out.2.2.2.2.1, HH.out.2.1, hm]) (fun j v hj => by
          rw [Addr.add_lit, Nat.zero_add]
          exact hT.drew.cells hmm.2.1 hj) q1 (fun u hu => HH.out.2.2.2.1 u (timesL_mem hu))
      obtain ⟨wB, hwB⟩ : ∃ wB, wB = wr.drew.setRow g (cur1.toList.take (n * 4) ++ timesL us m ++ cur1.toList.drop (n * 4 + (timesL us m).length)).toArray := ⟨_, rfl⟩
      rw [← hwB] at q2
      simp only [← hwB, hm] at hcp
      clear hwB
      have i4 : IntKind.i64.wrap ((n : Int) + (m : Int)) = ((n + m : Nat) : Int) := by rw [IntKind.wrap_i64]; omega
      go_upto_region 9 with fail
      go_region_law ((refine step_copy (d := .slice (some ⟨g, n * 4, none⟩) (c - n) (c - n)) (v := .slice (some ⟨g, 0, none⟩) n c) (.tmp 41) (.tmp 44) hcp ?_ (hs := by simp [Act.eval, Act.put]; omega)))
      all_goals
        have HN := Lib.hid q2
        clear hcp q0 q1 q2 hT hm
        go_wp2
        go_roundw
        case rel => exact ⟨n + m, by go_num, HN.out, by omega⟩
        case measure => simp [intOf]; omega
    · obtain rfl : n = c := by omega
      have hS : S g := by have := HH.out.2.2.2.2.2; rwa [HG.out] at this
      have HB : Below w.heap.size w wr := by obtain ⟨_, _, _, _, h, _⟩ := hT; exact h
      have HD := Lib.hid (hT.done hS (HX.out.below HB) (by unfold maxLen; omega))
      have HBB := Lib.hid HB
      clear hT hS HB hn1
      go_wp2
      go_ret
      exact ⟨_, _, rfl, HD.out, HBB.out⟩
end Go.Proofs.YtofihcahimdbhaaGreatDoor
