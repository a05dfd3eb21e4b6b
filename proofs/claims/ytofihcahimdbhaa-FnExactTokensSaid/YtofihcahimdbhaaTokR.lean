/- Tokens: the token at a place, by the reference. -/
import Derived.Test.YtofihcahimdbhaaTokQ
import Derived.Deep.DeepCutAuto
namespace Go.Proofs.Ytofihcahimdbhaa
open Go.RowKit Go.PlainAid

def sgT : ByteArray := ⟨#[123, 125, 40, 41, 60, 62, 44, 59, 58, 61, 46, 47, 64, 95]⟩
def signB (c : Int) : Bool := (List.range 14).any fun j => bt sgT j == c
def SgTo (c : Int) (k : Nat) : Prop := ∀ j, j < k → (bt sgT j == c) = false
theorem SgTo.next {c : Int} {k : Nat} (h : SgTo c k) (hk : (bt sgT k == c) = false) : SgTo c (k + 1) := fun j hj => by
  by_cases e : j = k
  · rw [e]; exact hk
  · exact h j (by omega)
theorem SgTo.hit {c : Int} {k : Nat} (h : k < 14) (hk : (bt sgT k == c) = true) : signB c = true := List.any_eq_true.2 ⟨k, by simpa using h, hk⟩
theorem SgTo.end_ {c : Int} {k : Nat} (h : SgTo c k) (hk : ¬ k < 14) : signB c = false := by
  unfold signB
  rw [List.any_eq_false]
  intro j hj
  simp at hj
  rw [h j (by omega)]
  decide
/-- The kind of the token at a place (0: none), and its end. -/
def arrAt (s : ByteArray) (i : Nat) : Bool := (bt s i == 45) && (decide (i + 1 < s.size) && (bt s (i + 1) == 62))
def lexK (s : ByteArray) (i : Nat) : Int := if letB (bt s i) = true then 1 else if digB (bt s i) = true then 2 else if arrAt s i = true then 3 else if signB (bt s i) = true then 3 else 0
def lexE (s : ByteArray) (i : Nat) : Nat := if letB (bt s i) = true then scan (wordAt s) s.size i else if digB (bt s i) = true then scan (numAt s) s.size i else if arrAt s i = true then i + 2 else if signB (bt s i) = true then i + 1 else 0
theorem arr_ways (s : ByteArray) (i : Nat) : ((bt s i == 45) = false ∧ arrAt s i = false) ∨ ((bt s i == 45) = true ∧ ¬ ((i : Int) + 1 < (s.size : Int)) ∧ arrAt s i = false) ∨ ((bt s i == 45) = true ∧ (i : Int) + 1 < (s.size : Int) ∧ (bt s (i + 1) == 62) = true ∧ arrAt s i = true) ∨
    ((bt s i == 45) = true ∧ (i : Int) + 1 < (s.size : Int) ∧ (bt s (i + 1) == 62) = false ∧ arrAt s i = false) := by
  unfold arrAt
  have e : decide (i + 1 < s.size) = decide ((i : Int) + 1 < (s.size : Int)) := by rw [Bool.eq_iff_iff, decide_eq_true_eq, decide_eq_true_eq]; omega
  rw [e]
  by_cases h4 : (i : Int) + 1 < (s.size : Int) <;> cases (bt s i == 45) <;> cases (bt s (i + 1) == 62) <;> simp [h4]
theorem bt_byte {s : ByteArray} {i : Nat} {c : UInt8} (h : i < s.size) (hb : (bt s i == (c.toNat : Int)) = true) : s[i] = c := by
  rw [beq_iff_eq, ← get_bt s i h] at hb
  exact UInt8.toNat_inj.1 (by omega)
theorem arr_text {s : ByteArray} {i : Nat} (h : i + 1 < s.size) (h1 : (bt s i == 45) = true) (h2 : (bt s (i + 1) == 62) = true) : s.extract i (i + 2) = ⟨#[45, 62]⟩ := by
  have e1 : s[i] = 45 := bt_byte (c := 45) (by omega) h1
  have e2 : s[i + 1] = 62 := bt_byte (c := 62) h h2
  have hl : i + 2 ≤ s.data.size := h
  apply ByteArray.ext
  apply Array.ext'
  simp only [ByteArray.data_extract, Array.toList_extract, List.extract_eq_take_drop]
  have l0 : i < s.data.toList.length := by rw [Array.length_toList]; omega
  have l1 : i + 1 < s.data.toList.length := by rw [Array.length_toList]; omega
  have d1 : s.data.toList.drop i = s.data.toList[i] :: s.data.toList[i + 1] :: s.data.toList.drop (i + 2) := by
    rw [List.drop_eq_getElem_cons l0, List.drop_eq_getElem_cons l1]
  rw [d1, show i + 2 - i = 2 by omega]
  simp only [List.take_succ_cons, List.take_zero]
  rw [show s.data.toList[i] = 45 from (Array.getElem_toList (by omega)).trans e1, show s.data.toList[i + 1] = 62 from (Array.getElem_toList (by omega)).trans e2]
set_option maxHeartbeats 1000000 in
set_option maxRecDepth 20000 in
theorem l05Sign_s (c : Int) (w : World) : Calls Try.prog 25 #[.int .u8 c] w fun e w' => e = .returned (.bool (signB c)) ∧ w = w' := by
  have hbt := get_bt sgT
  have HZ := Lib.hid (show sgT.size = 14 from rfl)
  obtain ⟨t, ht⟩ : ∃ t, sgT = t := ⟨_, rfl⟩
  have HT := Lib.hid ht
  rw [ht] at hbt HZ
  unfold sgT at ht
  go_enter Try.func25, Try.ntmps25
  go_upto_region 2 with fail
  rw [ht]
  have hz14 : t.size ≤ 14 := by have := HZ.out; omega
  clear ht
  go_wp2
  go_loopw [4] (fun j wr => ∃ k : Nat, k ≤ t.size ∧ j = .int .i64 k ∧ SgTo c k ∧ w = wr) (fun j _ => t.size - (intOf j).toNat)
  case atStart => exact ⟨0, Nat.zero_le _, rfl, fun j hj => by omega, rfl⟩
  case round =>
    obtain ⟨k, hk, rfl, hs, rfl⟩ := hrel
    have HS := Lib.hid hs
    clear hs
    by_cases hlt : k < t.size
    · have h0 : (0 : Int) ≤ (k : Int) := by omega
      have h1 : (k : Int) < (t.size : Int) := by omega
      cases hc : (bt t k == c)
      · have HN := Lib.hid (HS.out.next (show (bt sgT k == c) = false by rw [HT.out]; exact hc))
        go_wp2
        go_roundw
        case rel => exact ⟨k + 1, by omega, by go_num, HN.out, by first | rfl | trivial⟩
        case measure => simp [intOf]; omega
      · have HN := Lib.hid (SgTo.hit (c := c) (by omega) (show (bt sgT k == c) = true by rw [HT.out]; exact hc))
        go_wp2
        go_ret
        exact ⟨ret_eq (by rw [HN.out]; try rfl), rfl⟩
    · have HN := Lib.hid (HS.out.end_ (by have := HZ.out; omega))
      go_wp2
      go_ret
      exact ⟨ret_eq (by rw [HN.out]; try rfl), rfl⟩
end Go.Proofs.Ytofihcahimdbhaa
