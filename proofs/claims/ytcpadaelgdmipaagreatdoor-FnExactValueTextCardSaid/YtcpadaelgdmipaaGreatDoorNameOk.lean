/- NameOk: what the program's and the reference's function compute, and the law. -/
import Derived.Test.YtcpadaelgdmipaaGreatDoorNums
namespace Go.Proofs.YtcpadaelgdmipaaGreatDoor
open Go.RowKit Go.PlainAid

/-- Byte k of a name may stand there. -/
def okAt (s : ByteArray) (k : Nat) : Bool :=
  decide (97 ≤ bt s k ∧ bt s k ≤ 122) || (decide (k ≠ 0) && decide ((48 ≤ bt s k ∧ bt s k ≤ 57) ∨ bt s k = 45) && !(decide (bt s k = 45 ∧ bt s (k - 1) = 45)))
def nameOk (s : ByteArray) : Bool := decide (1 ≤ s.size ∧ s.size ≤ 12 ∧ bt s (s.size - 1) ≠ 45) && (List.range s.size).all (okAt s)
def NameTo (s : ByteArray) (k : Nat) : Prop := ∀ i, i < k → okAt s i = true
theorem NameTo.next {s : ByteArray} {k : Nat} (h : NameTo s k) (hk : okAt s k = true) : NameTo s (k + 1) := by
  intro i hi
  by_cases e : i = k
  · subst e; exact hk
  · exact h i (by omega)
theorem nameOk_bad {s : ByteArray} {k : Nat} (hk : k < s.size) (h : okAt s k = false) : nameOk s = false := by
  have : (List.range s.size).all (okAt s) = false := by
    rw [List.all_eq_false]
    exact ⟨k, by simpa using hk, by simp [h]⟩
  rw [nameOk, this, Bool.and_false]
theorem nameOk_end {s : ByteArray} {k : Nat} (hk : ¬ k < s.size) (h : NameTo s k) : nameOk s = decide (1 ≤ s.size ∧ s.size ≤ 12 ∧ bt s (s.size - 1) ≠ 45) := by
  have : (List.range s.size).all (okAt s) = true := by
    rw [List.all_eq_true]
    intro i hi
    simp at hi
    exact h i (by omega)
  rw [nameOk, this, Bool.and_true]

/-- The tests on a byte, by its kind. -/
def Kind4 (b : Int) (p q r u e : Bool) : Prop := decide (97 ≤ b) = p ∧ decide (b ≤ 122) = q ∧ decide (48 ≤ b) = r ∧ decide (b ≤ 57) = u ∧ (b == 45) = e ∧ (b != 45) = !e
theorem byte_kinds (b : Int) : Kind4 b false true false true false ∨ (Kind4 b false true false true true) ∨ Kind4 b false true true true false ∨ Kind4 b false true true false false ∨ Kind4 b true true true false false ∨ Kind4 b true false true false false := by
  unfold Kind4
  by_cases h1 : 97 ≤ b <;> by_cases h2 : b ≤ 122 <;> by_cases h3 : 48 ≤ b <;> by_cases h4 : b ≤ 57 <;> by_cases h5 : b = 45 <;> first | omega | simp [h1, h2, h3, h4, h5]
theorem okAt_kind {s : ByteArray} {k : Nat} {p q r u e : Bool} (h : Kind4 (bt s k) p q r u e) : okAt s k = ((p && q) || (decide (k ≠ 0) && ((r && u) || e) && !(e && (bt s (k - 1) == 45)))) := by
  obtain ⟨rfl, rfl, rfl, rfl, rfl, -⟩ := h
  simp [okAt, Bool.decide_and, Bool.decide_or]
  rfl

set_option maxHeartbeats 1000000 in
set_option maxRecDepth 20000 in
theorem nameOk_i (s : ByteArray) (hs : s.size ≤ maxLen) (w : World) :
    Calls Tryz.prog 103 #[.string s] w fun e w' => e = .returned (.bool (nameOk s)) ∧ Below w.heap.size w w' := by
  unfold maxLen at hs
  have hbt := get_bt s
  go_enter Tryz.func103, Tryz.ntmps103
  go_wp2
  go_loopw [3, 4, 5, 8] (fun _ _ _ i wr => ∃ k : Nat, k ≤ s.size ∧ i = .int .i64 k ∧ NameTo s k ∧ Below w.heap.size w wr) (fun _ _ _ i _ => s.size - (intOf i).toNat)
  case atStart => exact ⟨0, Nat.zero_le _, rfl, fun i hi => by omega, Below.refl _ _⟩
  case round =>
    obtain ⟨k, hk, rfl, hg, hb⟩ := hrel
    by_cases hlt : k < s.size
    · have h0 : (0 : Int) ≤ (k : Int) := by omega
      have h1 : (k : Int) < (s.size : Int) := by omega
      have hend := fun h : okAt s k = false => nameOk_bad hlt h
      have HE := Lib.hid hend
      have HG := Lib.hid hg
      clear hend hg
      by_cases hz : k = 0
      · subst hz
        rcases byte_kinds (bt s 0) with h | h | h | h | h | h
        all_goals
          have ho := okAt_kind h
          simp at ho
          have HO := Lib.hid ho
          clear ho
          obtain ⟨d1, d2, d3, d4, d5, d6⟩ := h
          go_wp2_with fail
          go_quiet (fail)
          go_wp2
        all_goals
          first
            | (go_ret; exact ⟨ret_eq (by rw [HE.out HO.out]; rfl), below_drewN hb _⟩)
            | (go_roundw; (case rel => exact ⟨1, by omega, by go_num, HG.out.next HO.out, below_drewN hb _⟩); (case measure => simp [intOf]; omega))
      · have hz1 : ((k : Int) == 0) = false := by rw [beq_eq_false_iff_ne]; omega
        have hkm : ((k : Int) - 1).toNat = k - 1 := by omega
        have hk1 : 1 ≤ (k : Int) := by omega
        have hk2 : (k : Int) - 1 < (s.size : Int) := by omega
        cases hp : (bt s (k - 1) == 45)
        all_goals
          rcases byte_kinds (bt s k) with h | h | h | h | h | h
        all_goals
          have ho := okAt_kind h
          simp [hp, hz] at ho
          have HO := Lib.hid ho
          clear ho
          obtain ⟨d1, d2, d3, d4, d5, d6⟩ := h
          clear hz
          go_wp2_with fail
          go_quiet (fail)
          go_wp2
        all_goals
          first
            | (go_ret; exact ⟨ret_eq (by rw [HE.out HO.out]; rfl), below_drewN hb _⟩)
            | (go_roundw; (case rel => exact ⟨k + 1, by omega, by go_num, HG.out.next HO.out, below_drewN hb _⟩); (case measure => simp [intOf]; omega))
    · have he := nameOk_end hlt hg
      have HE := Lib.hid he
      clear he
      by_cases g1 : 1 ≤ s.size
      · by_cases g2 : s.size ≤ 12
        · have g3 : (s.size : Int) - 1 < (s.size : Int) := by omega
          have g4 : ((s.size : Int) - 1).toNat = s.size - 1 := by omega
          have g5 : (1 : Int) ≤ (s.size : Int) := by omega
          by_cases g6 : bt s (s.size - 1) = 45
          all_goals
            have g7 : (bt s (s.size - 1) != 45) = !decide (bt s (s.size - 1) = 45) := by simp [bne]; rw [Bool.eq_iff_iff]; simp
            simp [g6] at g7
            go_wp2
            go_ret
            exact ⟨ret_eq (by rw [HE.out]; simp [g1, g2, g6]), hb⟩
        · go_wp2
          go_ret
          exact ⟨ret_eq (by rw [HE.out]; simp [g1, g2]), hb⟩
      · go_wp2
        go_ret
        exact ⟨ret_eq (by rw [HE.out]; simp [g1]), hb⟩

set_option maxHeartbeats 1000000 in
set_option maxRecDepth 20000 in
theorem l03Name_s (s : ByteArray) (hs : s.size ≤ maxLen) (w : World) :
    Calls Tryz.prog 133 #[.string s] w fun e w' => e = .returned (.bool (nameOk s)) ∧ w = w' := by
  unfold maxLen at hs
  have hbt := get_bt s
  by_cases g1 : 1 ≤ s.size ∧ s.size ≤ 12 ∧ 97 ≤ bt s 0 ∧ bt s 0 ≤ 122 ∧ bt s (s.size - 1) ≠ 45
  · obtain ⟨g1, g2, g3, g4, g5⟩ := g1
    have e1 : ((s.size : Int) - 1).toNat = s.size - 1 := by omega
    have e2 : (1 : Int) ≤ (s.size : Int) := by omega
    have e3 : (bt s (s.size - 1) == 45) = false := beq_eq_false_iff_ne.2 g5
    have e4 : (s.size : Int) - 1 < (s.size : Int) := by omega
    have e5 : (s.size : Int) ≤ 12 := by omega
    have e6 : (0 : Int) < (s.size : Int) := by omega
    have hok0 : okAt s 0 = true := by simp [okAt, g3, g4]
    have h0 := Lib.hid (And.intro hok0 g5)
    clear g5 hok0
    go_enter Tryz.func133, Tryz.ntmps133
    go_wp2
    go_loop [3, 4] (fun i _ => ∃ k : Nat, k ≤ s.size ∧ i = .int .i64 k ∧ NameTo s k) (fun i _ => s.size - (intOf i).toNat)
    case atStart => exact ⟨0, Nat.zero_le _, rfl, fun i hi => by omega⟩
    case round =>
      obtain ⟨k, hk, rfl, hg⟩ := hrel
      by_cases hlt : k < s.size
      · have hend := fun h : okAt s k = false => nameOk_bad hlt h
        have HE := Lib.hid hend
        have HG := Lib.hid hg
        clear hend hg
        by_cases hz : k = 0
        · subst hz
          have n1 : (bt s 0 == 45) = false := beq_eq_false_iff_ne.2 (by omega)
          have n2 : (bt s 0 != 45) = true := by rw [bne, n1]; rfl
          go_wp2
          go_round
          case rel => exact ⟨1, by omega, by go_num, HG.out.next h0.out.1⟩
          case measure => simp [intOf]; omega
        · have hkm : ((k : Int) - 1).toNat = k - 1 := by omega
          have hk1 : 1 ≤ (k : Int) := by omega
          have hk2 : (k : Int) - 1 < (s.size : Int) := by omega
          cases hp : (bt s (k - 1) == 45)
          all_goals
            rcases byte_kinds (bt s k) with h | h | h | h | h | h
          all_goals
            have ho := okAt_kind h
            simp [hp, hz] at ho
            have HO := Lib.hid ho
            clear ho
            obtain ⟨d1, d2, d3, d4, d5, d6⟩ := h
            simp at d1 d2 d3 d4
            clear hz
            go_wp2
          all_goals
            first
              | (go_ret; exact ⟨ret_eq (by rw [HE.out HO.out]; rfl), rfl⟩)
              | (go_round; (case rel => exact ⟨k + 1, by omega, by go_num, HG.out.next HO.out⟩); (case measure => simp [intOf]; omega))
      · have he := nameOk_end hlt hg
        have ht : nameOk s = true := by rw [he]; simp [g1, g2, h0.out.2]
        have HE := Lib.hid ht
        clear he ht
        go_wp2
        go_ret
        exact ⟨ret_eq (by rw [HE.out]; rfl), rfl⟩
  · have hf : nameOk s = false := by
      by_cases q : 1 ≤ s.size ∧ s.size ≤ 12 ∧ bt s (s.size - 1) ≠ 45
      · have : ¬ (97 ≤ bt s 0 ∧ bt s 0 ≤ 122) := fun h => g1 ⟨q.1, q.2.1, h.1, h.2, q.2.2⟩
        exact nameOk_bad (k := 0) (by omega) (by simp [okAt]; omega)
      · rw [nameOk, decide_eq_false q, Bool.false_and]
    have HF := Lib.hid hf
    clear hf
    by_cases q1 : 1 ≤ s.size
    · by_cases q2 : s.size ≤ 12
      · have e1 : ((s.size : Int) - 1).toNat = s.size - 1 := by omega
        have e2 : (1 : Int) ≤ (s.size : Int) := by omega
        have e4 : (s.size : Int) - 1 < (s.size : Int) := by omega
        have e5 : (s.size : Int) ≤ 12 := by omega
        have e6 : (0 : Int) < (s.size : Int) := by omega
        by_cases q3 : 97 ≤ bt s 0
        · by_cases q4 : bt s 0 ≤ 122
          · have q5 : (bt s (s.size - 1) == 45) = true := by
              rw [beq_iff_eq]
              apply Classical.byContradiction
              intro h
              exact g1 ⟨q1, q2, q3, q4, h⟩
            clear g1
            go_enter Tryz.func133, Tryz.ntmps133
            go_wp2
            go_ret
            exact ⟨ret_eq (by rw [HF.out]; rfl), rfl⟩
          · clear g1
            go_enter Tryz.func133, Tryz.ntmps133
            go_wp2
            go_ret
            exact ⟨ret_eq (by rw [HF.out]; rfl), rfl⟩
        · clear g1
          go_enter Tryz.func133, Tryz.ntmps133
          go_wp2
          go_ret
          exact ⟨ret_eq (by rw [HF.out]; rfl), rfl⟩
      · clear g1
        go_enter Tryz.func133, Tryz.ntmps133
        go_wp2
        go_ret
        exact ⟨ret_eq (by rw [HF.out]; rfl), rfl⟩
    · clear g1
      go_enter Tryz.func133, Tryz.ntmps133
      go_wp2
      go_ret
      exact ⟨ret_eq (by rw [HF.out]; rfl), rfl⟩
end Go.Proofs.YtcpadaelgdmipaaGreatDoor
