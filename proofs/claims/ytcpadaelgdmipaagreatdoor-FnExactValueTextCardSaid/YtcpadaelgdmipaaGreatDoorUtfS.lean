/- The code point with which a text begins: the reference's walk. -/
import Derived.Test.YtcpadaelgdmipaaGreatDoorUtf
import Derived.Test.YtcpadaelgdmipaaGreatDoorUtfP
namespace Go.Proofs.YtcpadaelgdmipaaGreatDoor
open Go.RowKit Go.PlainAid

def bn (s : ByteArray) (k : Nat) : Nat := (bt s k).toNat
theorem bn_bt (s : ByteArray) (k : Nat) : bt s k = (bn s k : Int) := by have := bt_nonneg s k; unfold bn; omega
theorem bn_lt (s : ByteArray) (k : Nat) : bn s k < 256 := by have := bt_nonneg s k; have := bt_le s k; unfold bn; omega
def vk (s : ByteArray) (c : Nat) : Nat → Nat
  | 0 => c
  | 1 => c
  | k + 2 => vk s c (k + 1) * 64 + bn s (k + 1) % 64
theorem vk_le (s : ByteArray) {c k : Nat} (hc : c < 256) (hk : k ≤ 4) : vk s c k < 67108864 := by
  rcases (show k = 0 ∨ k = 1 ∨ k = 2 ∨ k = 3 ∨ k = 4 by omega) with rfl | rfl | rfl | rfl | rfl <;> simp only [vk] <;> omega
theorem vk_next (s : ByteArray) (c : Nat) {k : Nat} (hk : 1 ≤ k) : vk s c (k + 1) = vk s c k * 64 + bn s k % 64 := by
  obtain ⟨j, rfl⟩ : ∃ j, k = j + 1 := ⟨k - 1, by omega⟩
  rfl
theorem or64 (v b : Nat) (hv : v < 67108864) : bits .or .i64 ((v : Int) * 64) ((b : Int) % 64) = ((v * 64 + b % 64 : Nat) : Int) := by
  have hc : bits .or .i64 ((v : Int) * 64) ((b : Int) % 64) = bits .or .i64 ((b : Int) % 64) ((v : Int) * 64) := by simp only [bits, BitVec.or_comm]
  rw [hc, or_i64_apart 6 _ _ (by decide) (by simp; omega) (by simp)]
  unfold wrap64
  omega
theorem charOk_le {V : Nat} (h : charOk (V : Int) = true) : V ≤ 1114111 := by
  simp only [charOk, Bool.or_eq_true, inR_iff] at h
  omega
theorem charOk_s (n : Int) (w : World) :
    Calls Tryz.prog 78 #[.int .i64 n] w fun e w' => e = .returned (.bool (charOk n)) ∧ w = w' := by
  by_cases h : inR 0 n 55295 = true
  all_goals
    go_enter Tryz.func78, Tryz.ntmps78
    go_wp2_with (go_at_call 49; refine (l00In_any _ _ _ _).mono ?_; rintro e w1 ⟨rfl, rfl⟩)
    go_ret
    exact ⟨ret_eq (by simp_all [charOk]), rfl⟩
theorem getD_bn (s : ByteArray) (k : Nat) : (s.data.toList.getD k 0).toNat = bn s k := by
  unfold bn bt
  split
  · rename_i h
    have h' : k < s.data.size := h
    rw [List.getD_eq_getElem?_getD, Array.getElem?_toList, Array.getElem?_eq_getElem h']
    rfl
  · rename_i h
    have h' : ¬ k < s.data.size := h
    rw [List.getD_eq_getElem?_getD, Array.getElem?_toList, Array.getElem?_eq_none (by omega)]
    rfl
theorem decode_bn (s : ByteArray) : Lib.decodeL s.data.toList = Lib.decodeN s.size (bn s 0) (bn s 1) (bn s 2) (bn s 3) := by
  rw [Lib.decodeL_N, getD_bn, getD_bn, getD_bn, getD_bn, ← Lib.size_eq]
theorem takeL (l : List UInt8) (m : Nat) (hm : m ≤ l.length) (h4 : m ≤ 4) : (l.take m).map UInt8.toNat = [(l.getD 0 0).toNat, (l.getD 1 0).toNat, (l.getD 2 0).toNat, (l.getD 3 0).toNat].take m := by
  rcases l with _ | ⟨a, _ | ⟨b, _ | ⟨c, _ | ⟨d, r⟩⟩⟩⟩ <;> rcases (show m = 0 ∨ m = 1 ∨ m = 2 ∨ m = 3 ∨ m = 4 by omega) with rfl | rfl | rfl | rfl | rfl <;> first | (exfalso; simp at hm; done) | simp
theorem chr_nat (V : Nat) (hV : V ≤ 1114111) : (chr V).map UInt8.toNat = chrN V := by
  rw [chr_chrN, List.map_map]
  unfold chrN
  (repeat' split) <;> simp <;> omega
theorem map_toNat_inj : ∀ {a b : List UInt8}, a.map UInt8.toNat = b.map UInt8.toNat → a = b
  | [], [], _ => rfl
  | [], _ :: _, h => by cases h
  | _ :: _, [], h => by cases h
  | x :: a, y :: b, h => by
    simp only [List.map_cons, List.cons.injEq] at h
    rw [UInt8.toNat_inj.1 h.1, map_toNat_inj h.2]
theorem eq_iff (s : ByteArray) (V m : Nat) (hV : V ≤ 1114111) (hm : m ≤ s.size) (h4 : m ≤ 4) :
    ((chrT V).toList == (s.extract 0 m).toList) = true ↔ chrN V = [bn s 0, bn s 1, bn s 2, bn s 3].take m := by
  have e1 : (chrT V).toList = chr V := by rw [ByteArray.toList_eq]; simp [chrT]
  have e2 : (s.extract 0 m).toList = s.data.toList.take m := by rw [ByteArray.toList_eq]; simp
  rw [e1, e2, beq_iff_eq, ← chr_nat V hV, ← getD_bn, ← getD_bn, ← getD_bn, ← getD_bn, ← takeL _ m (by rw [← Lib.size_eq]; exact hm) h4]
  exact ⟨fun h => by rw [h], map_toNat_inj⟩
theorem charN_iff (V : Nat) : charOk (V : Int) = true ↔ charN V := by
  unfold charN
  simp only [charOk, Bool.or_eq_true, inR_iff]
  omega
theorem pt_zero (s : ByteArray) (h : Lib.decodeN s.size (bn s 0) (bn s 1) (bn s 2) (bn s 3) = (65533, 1)) : ptW s = 0 := by
  unfold ptW
  rw [decode_bn, h]
  rfl
theorem vk_pt (s : ByteArray) (m c : Nat) (hl : Lead m (bn s 0)) (hc : bn s 0 = if m = 1 then c else if m = 2 then c + 192 else if m = 3 then c + 224 else c + 240) : vk s c m = ptN m (bn s 0) (bn s 1) (bn s 2) (bn s 3) := by
  rcases hl with ⟨rfl, _⟩ | ⟨rfl, _⟩ | ⟨rfl, _⟩ | ⟨rfl, _⟩ <;> simp only [vk, ptN] <;> simp at hc ⊢ <;> rw [hc] <;> simp
/-- The test at the end, and what it says. -/
theorem pt_end (s : ByteArray) (m c : Nat) (hs : 0 < s.size) (hm : m ≤ s.size) (hl : Lead m (bn s 0)) (hc : bn s 0 = if m = 1 then c else if m = 2 then c + 192 else if m = 3 then c + 224 else c + 240) :
    (charOk (vk s c m : Int) = false ∨ ((chrT (vk s c m)).toList == (s.extract 0 m).toList) = false → ptW s = 0) ∧
    (charOk (vk s c m : Int) = true → ((chrT (vk s c m)).toList == (s.extract 0 m).toList) = true → ptW s = m ∧ (Lib.decodeL s.data.toList).1 = vk s c m) := by
  have h4 : m ≤ 4 := by rcases hl with ⟨rfl, _⟩ | ⟨rfl, _⟩ | ⟨rfl, _⟩ | ⟨rfl, _⟩ <;> decide
  rw [vk_pt s m c hl hc]
  constructor
  · intro h
    refine pt_zero s (pt_bad hs (bn_lt s 0) (bn_lt s 1) (bn_lt s 2) (bn_lt s 3) hl ?_)
    rintro ⟨_, hch, he⟩
    have hch' := (charN_iff _).2 hch
    have he' := (eq_iff s _ m (charOk_le hch') hm h4).2 he
    rcases h with h | h
    · rw [hch'] at h; cases h
    · rw [he'] at h; cases h
  · intro hch he
    obtain ⟨h1, h2⟩ := pt_good (bn_lt s 0) (bn_lt s 1) (bn_lt s 2) (bn_lt s 3) hl hm ((charN_iff _).1 hch) ((eq_iff s _ m (charOk_le hch) hm h4).1 he)
    refine ⟨?_, ?_⟩
    · unfold ptW
      rw [decode_bn, if_neg h2]
      exact h1
    · rw [decode_bn]
      exact pt_val (bn_lt s 0) (bn_lt s 1) (bn_lt s 2) (bn_lt s 3) hl hm ((charN_iff _).1 hch) ((eq_iff s _ m (charOk_le hch) hm h4).1 he)
theorem pt_short (s : ByteArray) (m : Nat) (hs : 0 < s.size) (hm : ¬ m ≤ s.size) (hl : Lead m (bn s 0)) : ptW s = 0 :=
  pt_zero s (pt_bad hs (bn_lt s 0) (bn_lt s 1) (bn_lt s 2) (bn_lt s 3) hl (fun h => hm h.1))
theorem not_empty (s : ByteArray) (hs : 0 < s.size) : (s.toList == []) = false := by
  cases h : s.toList == []
  · rfl
  · rw [beq_iff_eq, ByteArray.toList_eq] at h
    have := congrArg List.length h
    rw [← Lib.size_eq] at this
    simp only [List.length_nil] at this
    omega
set_option maxHeartbeats 4000000 in
set_option maxRecDepth 20000 in
theorem l04Point_s (s : ByteArray) (hs : 0 < s.size) (hs2 : s.size ≤ 24) (w : World) : Calls Tryz.prog 91 #[.string s] w (RetPt s w) := by
  have hbt := PlainAid.get_bt s
  have h0 := PlainAid.bt_le s 0
  have h00 := PlainAid.bt_nonneg s 0
  have hne := not_empty s hs
  by_cases c4 : (240 : Int) ≤ bt s 0
  · obtain ⟨c, hc⟩ : ∃ c : Nat, bt s 0 - 240 = (c : Int) := ⟨(bt s 0 - 240).toNat, by omega⟩
    have hc9 : c < 256 := by omega
    by_cases hm : 4 ≤ s.size
    rotate_left
    · have im : (s.size : Int) < 4 := by omega
      have HG := Lib.hid (pt_short s 4 hs hm (.inr (.inr (.inr ⟨rfl, by have := bn_bt s 0; omega⟩))))
      go_enter Tryz.func91, Tryz.ntmps91
      go_wp2_with fail
      go_quiet (fail)
      go_wp2_with fail
      go_quiet (fail)
      go_wp2_with fail
      exact bodyPost_ret (v := .tuple #[.int .i64 0, .int .i64 0]) (by simp [results, Tryz.results91, go_sem]) rfl ⟨0, fun h => absurd HG.out h, ret_eq (by rw [HG.out]; rfl), below_drewN (Below.refl _ _) _⟩
    have im : ¬ (s.size : Int) < 4 := by omega
    have im' : (4 : Int) ≤ (s.size : Int) := by omega
    go_enter Tryz.func91, Tryz.ntmps91
    go_wp2_with fail
    go_quiet (fail)
    go_wp2_with fail
    go_quiet (fail)
    go_wp2_with fail
    go_loopw [5, 6] (fun n i wr => ∃ k : Nat, i = .int .i64 k ∧ n = .int .i64 (vk s c k) ∧ 1 ≤ k ∧ k ≤ 4 ∧ Below w.heap.size w wr) (fun _ i _ => (4 - intOf i).toNat)
    case atStart => exact ⟨1, rfl, by first | rfl | (simp only [vk]; rw [← hc]), Nat.le_refl _, by omega, below_drewN (Below.refl _ _) _⟩
    case round =>
      obtain ⟨k, rfl, rfl, hk1, hk4, hb⟩ := hrel
      have hv := vk_le s hc9 (Nat.le_trans hk4 (by decide : 4 ≤ 4))
      have hbk := bn_lt s k
      have hbk' := bn_bt s k
      by_cases hk : k < 4
      · have ik : (k : Int) < 4 := by omega
        have ks : k < s.size := by omega
        have ks' : (k : Int) < (s.size : Int) := by omega
        have HJ := Lib.hid (or64 (vk s c k) (bn s k) hv)
        go_wp2_with fail
        refine ⟨⟨k + 1, by simp, ?_, by omega, by omega, hb⟩, by simp [intOf]; omega⟩
        rw [HJ.out, vk_next s c hk1]
      obtain rfl : k = 4 := by omega
      have HP := Lib.hid (pt_end s 4 c hs hm (.inr (.inr (.inr ⟨rfl, by have := bn_bt s 0; omega⟩))) (by have := bn_bt s 0; simp; omega))
      obtain ⟨V, hV⟩ : ∃ V, vk s c 4 = V := ⟨_, rfl⟩
      rw [hV] at hv HP ⊢
      have HB := Lib.hid hb
      clear hV hb hk hk1 hk4 hbk hbk'
      have hx4 : (4 : Nat) ≤ s.size := hm
      cases g : charOk (V : Int) with
      | false =>
        have HG := Lib.hid (HP.out.1 (.inl g))
        go_wp2_with fail
        refine wp_region_quiet_below (by kernel_rfl) (by kernel_rfl) ?_
        repeat (first | go_big_quiet_step (exact regrown_same (charOk_s _ _)) | quiet_step (exact regrown_same (charOk_s _ _)))
        refine wpQuiet_nil ?_
        intro w2 hw2
        have B2 := HB.out.trans ((below_of_regrown hw2).mono HB.out.size)
        clear hw2
        go_wp2
        exact bodyPost_ret (v := .tuple #[.int .i64 0, .int .i64 0]) (by simp [results, Tryz.results91, go_sem]) rfl ⟨0, fun h => absurd HG.out h, ret_eq (by rw [HG.out]; rfl), B2⟩
      | true =>
        obtain ⟨R, hR⟩ : ∃ R, chrT V = R := ⟨_, rfl⟩
        have HC := Lib.hid (fun w => l04Char_s V (charOk_le g) w)
        rw [hR] at HP HC
        clear hR
        cases e : (R.toList == (s.extract 0 4).toList) with
        | false =>
          have e' : (R.toList != (s.extract 0 4).toList) = true := by simp [bne, e]
          have HG := Lib.hid (HP.out.1 (.inr e))
          go_wp2_with fail
          refine wp_region_quiet_below (by kernel_rfl) (by kernel_rfl) ?_
          repeat (first | go_big_quiet_step (first | with_reducible exact regrown_same (charOk_s _ _) | with_reducible exact Calls.regrown_of (HC.out _)) | quiet_step (first | with_reducible exact regrown_same (charOk_s _ _) | with_reducible exact Calls.regrown_of (HC.out _)))
          refine wpQuiet_nil ?_
          intro w2 hw2
          have B2 := HB.out.trans ((below_of_regrown hw2).mono HB.out.size)
          clear hw2
          go_wp2
          exact bodyPost_ret (v := .tuple #[.int .i64 0, .int .i64 0]) (by simp [results, Tryz.results91, go_sem]) rfl ⟨0, fun h => absurd HG.out h, ret_eq (by rw [HG.out]; rfl), B2⟩
        | true =>
          have e' : (R.toList != (s.extract 0 4).toList) = false := by simp [bne, e]
          have HG := Lib.hid (HP.out.2 g e)
          go_wp2_with fail
          refine wp_region_quiet_below (by kernel_rfl) (by kernel_rfl) ?_
          repeat (first | go_big_quiet_step (first | with_reducible exact regrown_same (charOk_s _ _) | with_reducible exact Calls.regrown_of (HC.out _)) | quiet_step (first | with_reducible exact regrown_same (charOk_s _ _) | with_reducible exact Calls.regrown_of (HC.out _)))
          refine wpQuiet_nil ?_
          intro w2 hw2
          have B2 := HB.out.trans ((below_of_regrown hw2).mono HB.out.size)
          clear hw2
          go_wp2
          exact bodyPost_ret (v := .tuple #[.int .i64 V, .int .i64 4]) (by simp [results, Tryz.results91, go_sem]) rfl ⟨V, fun _ => by rw [HG.out.2], ret_eq (by rw [HG.out.1]; rfl), B2⟩
  by_cases c3 : (224 : Int) ≤ bt s 0
  · obtain ⟨c, hc⟩ : ∃ c : Nat, bt s 0 - 224 = (c : Int) := ⟨(bt s 0 - 224).toNat, by omega⟩
    have hc9 : c < 256 := by omega
    by_cases hm : 3 ≤ s.size
    rotate_left
    · have im : (s.size : Int) < 3 := by omega
      have HG := Lib.hid (pt_short s 3 hs hm (.inr (.inr (.inl ⟨rfl, by have := bn_bt s 0; omega, by have := bn_bt s 0; omega⟩))))
      go_enter Tryz.func91, Tryz.ntmps91
      go_wp2_with fail
      go_quiet (fail)
      go_wp2_with fail
      go_quiet (fail)
      go_wp2_with fail
      exact bodyPost_ret (v := .tuple #[.int .i64 0, .int .i64 0]) (by simp [results, Tryz.results91, go_sem]) rfl ⟨0, fun h => absurd HG.out h, ret_eq (by rw [HG.out]; rfl), below_drewN (Below.refl _ _) _⟩
    have im : ¬ (s.size : Int) < 3 := by omega
    have im' : (3 : Int) ≤ (s.size : Int) := by omega
    go_enter Tryz.func91, Tryz.ntmps91
    go_wp2_with fail
    go_quiet (fail)
    go_wp2_with fail
    go_quiet (fail)
    go_wp2_with fail
    go_loopw [5, 6] (fun n i wr => ∃ k : Nat, i = .int .i64 k ∧ n = .int .i64 (vk s c k) ∧ 1 ≤ k ∧ k ≤ 3 ∧ Below w.heap.size w wr) (fun _ i _ => (3 - intOf i).toNat)
    case atStart => exact ⟨1, rfl, by first | rfl | (simp only [vk]; rw [← hc]), Nat.le_refl _, by omega, below_drewN (Below.refl _ _) _⟩
    case round =>
      obtain ⟨k, rfl, rfl, hk1, hk4, hb⟩ := hrel
      have hv := vk_le s hc9 (Nat.le_trans hk4 (by decide : 3 ≤ 4))
      have hbk := bn_lt s k
      have hbk' := bn_bt s k
      by_cases hk : k < 3
      · have ik : (k : Int) < 3 := by omega
        have ks : k < s.size := by omega
        have ks' : (k : Int) < (s.size : Int) := by omega
        have HJ := Lib.hid (or64 (vk s c k) (bn s k) hv)
        go_wp2_with fail
        refine ⟨⟨k + 1, by simp, ?_, by omega, by omega, hb⟩, by simp [intOf]; omega⟩
        rw [HJ.out, vk_next s c hk1]
      obtain rfl : k = 3 := by omega
      have HP := Lib.hid (pt_end s 3 c hs hm (.inr (.inr (.inl ⟨rfl, by have := bn_bt s 0; omega, by have := bn_bt s 0; omega⟩))) (by have := bn_bt s 0; simp; omega))
      obtain ⟨V, hV⟩ : ∃ V, vk s c 3 = V := ⟨_, rfl⟩
      rw [hV] at hv HP ⊢
      have HB := Lib.hid hb
      clear hV hb hk hk1 hk4 hbk hbk'
      have hx4 : (3 : Nat) ≤ s.size := hm
      cases g : charOk (V : Int) with
      | false =>
        have HG := Lib.hid (HP.out.1 (.inl g))
        go_wp2_with fail
        refine wp_region_quiet_below (by kernel_rfl) (by kernel_rfl) ?_
        repeat (first | go_big_quiet_step (exact regrown_same (charOk_s _ _)) | quiet_step (exact regrown_same (charOk_s _ _)))
        refine wpQuiet_nil ?_
        intro w2 hw2
        have B2 := HB.out.trans ((below_of_regrown hw2).mono HB.out.size)
        clear hw2
        go_wp2
        exact bodyPost_ret (v := .tuple #[.int .i64 0, .int .i64 0]) (by simp [results, Tryz.results91, go_sem]) rfl ⟨0, fun h => absurd HG.out h, ret_eq (by rw [HG.out]; rfl), B2⟩
      | true =>
        obtain ⟨R, hR⟩ : ∃ R, chrT V = R := ⟨_, rfl⟩
        have HC := Lib.hid (fun w => l04Char_s V (charOk_le g) w)
        rw [hR] at HP HC
        clear hR
        cases e : (R.toList == (s.extract 0 3).toList) with
        | false =>
          have e' : (R.toList != (s.extract 0 3).toList) = true := by simp [bne, e]
          have HG := Lib.hid (HP.out.1 (.inr e))
          go_wp2_with fail
          refine wp_region_quiet_below (by kernel_rfl) (by kernel_rfl) ?_
          repeat (first | go_big_quiet_step (first | with_reducible exact regrown_same (charOk_s _ _) | with_reducible exact Calls.regrown_of (HC.out _)) | quiet_step (first | with_reducible exact regrown_same (charOk_s _ _) | with_reducible exact Calls.regrown_of (HC.out _)))
          refine wpQuiet_nil ?_
          intro w2 hw2
          have B2 := HB.out.trans ((below_of_regrown hw2).mono HB.out.size)
          clear hw2
          go_wp2
          exact bodyPost_ret (v := .tuple #[.int .i64 0, .int .i64 0]) (by simp [results, Tryz.results91, go_sem]) rfl ⟨0, fun h => absurd HG.out h, ret_eq (by rw [HG.out]; rfl), B2⟩
        | true =>
          have e' : (R.toList != (s.extract 0 3).toList) = false := by simp [bne, e]
          have HG := Lib.hid (HP.out.2 g e)
          go_wp2_with fail
          refine wp_region_quiet_below (by kernel_rfl) (by kernel_rfl) ?_
          repeat (first | go_big_quiet_step (first | with_reducible exact regrown_same (charOk_s _ _) | with_reducible exact Calls.regrown_of (HC.out _)) | quiet_step (first | with_reducible exact regrown_same (charOk_s _ _) | with_reducible exact Calls.regrown_of (HC.out _)))
          refine wpQuiet_nil ?_
          intro w2 hw2
          have B2 := HB.out.trans ((below_of_regrown hw2).mono HB.out.size)
          clear hw2
          go_wp2
          exact bodyPost_ret (v := .tuple #[.int .i64 V, .int .i64 3]) (by simp [results, Tryz.results91, go_sem]) rfl ⟨V, fun _ => by rw [HG.out.2], ret_eq (by rw [HG.out.1]; rfl), B2⟩
  by_cases c2 : (192 : Int) ≤ bt s 0
  · obtain ⟨c, hc⟩ : ∃ c : Nat, bt s 0 - 192 = (c : Int) := ⟨(bt s 0 - 192).toNat, by omega⟩
    have hc9 : c < 256 := by omega
    by_cases hm : 2 ≤ s.size
    rotate_left
    · have im : (s.size : Int) < 2 := by omega
      have HG := Lib.hid (pt_short s 2 hs hm (.inr (.inl ⟨rfl, by have := bn_bt s 0; omega, by have := bn_bt s 0; omega⟩)))
      go_enter Tryz.func91, Tryz.ntmps91
      go_wp2_with fail
      go_quiet (fail)
      go_wp2_with fail
      go_quiet (fail)
      go_wp2_with fail
      exact bodyPost_ret (v := .tuple #[.int .i64 0, .int .i64 0]) (by simp [results, Tryz.results91, go_sem]) rfl ⟨0, fun h => absurd HG.out h, ret_eq (by rw [HG.out]; rfl), below_drewN (Below.refl _ _) _⟩
    have im : ¬ (s.size : Int) < 2 := by omega
    have im' : (2 : Int) ≤ (s.size : Int) := by omega
    go_enter Tryz.func91, Tryz.ntmps91
    go_wp2_with fail
    go_quiet (fail)
    go_wp2_with fail
    go_quiet (fail)
    go_wp2_with fail
    go_loopw [5, 6] (fun n i wr => ∃ k : Nat, i = .int .i64 k ∧ n = .int .i64 (vk s c k) ∧ 1 ≤ k ∧ k ≤ 2 ∧ Below w.heap.size w wr) (fun _ i _ => (2 - intOf i).toNat)
    case atStart => exact ⟨1, rfl, by first | rfl | (simp only [vk]; rw [← hc]), Nat.le_refl _, by omega, below_drewN (Below.refl _ _) _⟩
    case round =>
      obtain ⟨k, rfl, rfl, hk1, hk4, hb⟩ := hrel
      have hv := vk_le s hc9 (Nat.le_trans hk4 (by decide : 2 ≤ 4))
      have hbk := bn_lt s k
      have hbk' := bn_bt s k
      by_cases hk : k < 2
      · have ik : (k : Int) < 2 := by omega
        have ks : k < s.size := by omega
        have ks' : (k : Int) < (s.size : Int) := by omega
        have HJ := Lib.hid (or64 (vk s c k) (bn s k) hv)
        go_wp2_with fail
        refine ⟨⟨k + 1, by simp, ?_, by omega, by omega, hb⟩, by simp [intOf]; omega⟩
        rw [HJ.out, vk_next s c hk1]
      obtain rfl : k = 2 := by omega
      have HP := Lib.hid (pt_end s 2 c hs hm (.inr (.inl ⟨rfl, by have := bn_bt s 0; omega, by have := bn_bt s 0; omega⟩)) (by have := bn_bt s 0; simp; omega))
      obtain ⟨V, hV⟩ : ∃ V, vk s c 2 = V := ⟨_, rfl⟩
      rw [hV] at hv HP ⊢
      have HB := Lib.hid hb
      clear hV hb hk hk1 hk4 hbk hbk'
      have hx4 : (2 : Nat) ≤ s.size := hm
      cases g : charOk (V : Int) with
      | false =>
        have HG := Lib.hid (HP.out.1 (.inl g))
        go_wp2_with fail
        refine wp_region_quiet_below (by kernel_rfl) (by kernel_rfl) ?_
        repeat (first | go_big_quiet_step (exact regrown_same (charOk_s _ _)) | quiet_step (exact regrown_same (charOk_s _ _)))
        refine wpQuiet_nil ?_
        intro w2 hw2
        have B2 := HB.out.trans ((below_of_regrown hw2).mono HB.out.size)
        clear hw2
        go_wp2
        exact bodyPost_ret (v := .tuple #[.int .i64 0, .int .i64 0]) (by simp [results, Tryz.results91, go_sem]) rfl ⟨0, fun h => absurd HG.out h, ret_eq (by rw [HG.out]; rfl), B2⟩
      | true =>
        obtain ⟨R, hR⟩ : ∃ R, chrT V = R := ⟨_, rfl⟩
        have HC := Lib.hid (fun w => l04Char_s V (charOk_le g) w)
        rw [hR] at HP HC
        clear hR
        cases e : (R.toList == (s.extract 0 2).toList) with
        | false =>
          have e' : (R.toList != (s.extract 0 2).toList) = true := by simp [bne, e]
          have HG := Lib.hid (HP.out.1 (.inr e))
          go_wp2_with fail
          refine wp_region_quiet_below (by kernel_rfl) (by kernel_rfl) ?_
          repeat (first | go_big_quiet_step (first | with_reducible exact regrown_same (charOk_s _ _) | with_reducible exact Calls.regrown_of (HC.out _)) | quiet_step (first | with_reducible exact regrown_same (charOk_s _ _) | with_reducible exact Calls.regrown_of (HC.out _)))
          refine wpQuiet_nil ?_
          intro w2 hw2
          have B2 := HB.out.trans ((below_of_regrown hw2).mono HB.out.size)
          clear hw2
          go_wp2
          exact bodyPost_ret (v := .tuple #[.int .i64 0, .int .i64 0]) (by simp [results, Tryz.results91, go_sem]) rfl ⟨0, fun h => absurd HG.out h, ret_eq (by rw [HG.out]; rfl), B2⟩
        | true =>
          have e' : (R.toList != (s.extract 0 2).toList) = false := by simp [bne, e]
          have HG := Lib.hid (HP.out.2 g e)
          go_wp2_with fail
          refine wp_region_quiet_below (by kernel_rfl) (by kernel_rfl) ?_
          repeat (first | go_big_quiet_step (first | with_reducible exact regrown_same (charOk_s _ _) | with_reducible exact Calls.regrown_of (HC.out _)) | quiet_step (first | with_reducible exact regrown_same (charOk_s _ _) | with_reducible exact Calls.regrown_of (HC.out _)))
          refine wpQuiet_nil ?_
          intro w2 hw2
          have B2 := HB.out.trans ((below_of_regrown hw2).mono HB.out.size)
          clear hw2
          go_wp2
          exact bodyPost_ret (v := .tuple #[.int .i64 V, .int .i64 2]) (by simp [results, Tryz.results91, go_sem]) rfl ⟨V, fun _ => by rw [HG.out.2], ret_eq (by rw [HG.out.1]; rfl), B2⟩
  obtain ⟨c, hc⟩ : ∃ c : Nat, bt s 0 = (c : Int) := ⟨(bt s 0).toNat, by omega⟩
  have hc9 : c < 256 := by omega
  have hm : 1 ≤ s.size := hs
  have im : ¬ (s.size : Int) < 1 := by omega
  have im' : (1 : Int) ≤ (s.size : Int) := by omega
  go_enter Tryz.func91, Tryz.ntmps91
  go_wp2_with fail
  go_quiet (fail)
  go_wp2_with fail
  go_loopw [5, 6] (fun n i wr => ∃ k : Nat, i = .int .i64 k ∧ n = .int .i64 (vk s c k) ∧ 1 ≤ k ∧ k ≤ 1 ∧ Below w.heap.size w wr) (fun _ i _ => (1 - intOf i).toNat)
  case atStart => exact ⟨1, rfl, by first | rfl | (simp only [vk]; rw [← hc]), Nat.le_refl _, by omega, below_drewN (Below.refl _ _) _⟩
  case round =>
    obtain ⟨k, rfl, rfl, hk1, hk4, hb⟩ := hrel
    have hv := vk_le s hc9 (Nat.le_trans hk4 (by decide : 1 ≤ 4))
    have hbk := bn_lt s k
    have hbk' := bn_bt s k
    have hk : ¬ k < 1 := by omega
    obtain rfl : k = 1 := by omega
    have HP := Lib.hid (pt_end s 1 c hs hm (.inl ⟨rfl, by have := bn_bt s 0; omega⟩) (by have := bn_bt s 0; simp; omega))
    obtain ⟨V, hV⟩ : ∃ V, vk s c 1 = V := ⟨_, rfl⟩
    rw [hV] at hv HP ⊢
    have HB := Lib.hid hb
    clear hV hb hk hk1 hk4 hbk hbk'
    have hx4 : (1 : Nat) ≤ s.size := hm
    cases g : charOk (V : Int) with
    | false =>
      have HG := Lib.hid (HP.out.1 (.inl g))
      go_wp2_with fail
      refine wp_region_quiet_below (by kernel_rfl) (by kernel_rfl) ?_
      repeat (first | go_big_quiet_step (exact regrown_same (charOk_s _ _)) | quiet_step (exact regrown_same (charOk_s _ _)))
      refine wpQuiet_nil ?_
      intro w2 hw2
      have B2 := HB.out.trans ((below_of_regrown hw2).mono HB.out.size)
      clear hw2
      go_wp2
      exact bodyPost_ret (v := .tuple #[.int .i64 0, .int .i64 0]) (by simp [results, Tryz.results91, go_sem]) rfl ⟨0, fun h => absurd HG.out h, ret_eq (by rw [HG.out]; rfl), B2⟩
    | true =>
      obtain ⟨R, hR⟩ : ∃ R, chrT V = R := ⟨_, rfl⟩
      have HC := Lib.hid (fun w => l04Char_s V (charOk_le g) w)
      rw [hR] at HP HC
      clear hR
      cases e : (R.toList == (s.extract 0 1).toList) with
      | false =>
        have e' : (R.toList != (s.extract 0 1).toList) = true := by simp [bne, e]
        have HG := Lib.hid (HP.out.1 (.inr e))
        go_wp2_with fail
        refine wp_region_quiet_below (by kernel_rfl) (by kernel_rfl) ?_
        repeat (first | go_big_quiet_step (first | with_reducible exact regrown_same (charOk_s _ _) | with_reducible exact Calls.regrown_of (HC.out _)) | quiet_step (first | with_reducible exact regrown_same (charOk_s _ _) | with_reducible exact Calls.regrown_of (HC.out _)))
        refine wpQuiet_nil ?_
        intro w2 hw2
        have B2 := HB.out.trans ((below_of_regrown hw2).mono HB.out.size)
        clear hw2
        go_wp2
        exact bodyPost_ret (v := .tuple #[.int .i64 0, .int .i64 0]) (by simp [results, Tryz.results91, go_sem]) rfl ⟨0, fun h => absurd HG.out h, ret_eq (by rw [HG.out]; rfl), B2⟩
      | true =>
        have e' : (R.toList != (s.extract 0 1).toList) = false := by simp [bne, e]
        have HG := Lib.hid (HP.out.2 g e)
        go_wp2_with fail
        refine wp_region_quiet_below (by kernel_rfl) (by kernel_rfl) ?_
        repeat (first | go_big_quiet_step (first | with_reducible exact regrown_same (charOk_s _ _) | with_reducible exact Calls.regrown_of (HC.out _)) | quiet_step (first | with_reducible exact regrown_same (charOk_s _ _) | with_reducible exact Calls.regrown_of (HC.out _)))
        refine wpQuiet_nil ?_
        intro w2 hw2
        have B2 := HB.out.trans ((below_of_regrown hw2).mono HB.out.size)
        clear hw2
        go_wp2
        exact bodyPost_ret (v := .tuple #[.int .i64 V, .int .i64 1]) (by simp [results, Tryz.results91, go_sem]) rfl ⟨V, fun _ => by rw [HG.out.2], ret_eq (by rw [HG.out.1]; rfl), B2⟩
end Go.Proofs.YtcpadaelgdmipaaGreatDoor
