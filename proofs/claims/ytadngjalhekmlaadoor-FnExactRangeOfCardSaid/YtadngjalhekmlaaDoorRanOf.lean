/- RangeOf: by the reference and by the program. -/
import Derived.Test.YtadngjalhekmlaaDoorVs
import Derived.Test.YtadngjalhekmlaaDoorRanT
import Derived.PlainAid
namespace Go.Proofs.YtadngjalhekmlaaDoor
open Go.RowKit Go.Shelf Go.PlainAid

theorem verT_two (m : Nat) : 2 ≤ (verT m).size := by
  unfold verT
  simp only [ByteArray.size_append]
  have e : (ByteArray.mk #[46]).size = 1 := rfl
  omega
theorem numV_small {s : ByteArray} (h : s.size < 2) : numV s = -1 := by
  rcases numV_cases s with h1 | ⟨m, hm, h1, rfl⟩
  · exact h1
  · have := verT_two m; omega
theorem extract_size1 (s : ByteArray) : (s.extract 1 s.size).size = s.size - 1 := by rw [ByteArray.size_extract]; omega
/-- The byte at the head. -/
def hdN (s : ByteArray) : Nat := (bt s 0).toNat
theorem hd_byte {s : ByteArray} (h : 0 < s.size) : ∃ c : UInt8, bt s 0 = (c.toNat : Int) ∧ hdN s = c.toNat ∧ s.extract 0 1 = ⟨#[c]⟩ := by
  obtain ⟨c, h1, h2⟩ := bt_list s 0 h
  refine ⟨c, h2, by unfold hdN; rw [h2]; rfl, ?_⟩
  apply ByteArray.ext
  apply Array.ext'
  have h' : (s.extract 0 1).data.toList = (s.data.toList.drop 0).take 1 := by simp
  rw [h']
  cases hl : s.data.toList with
  | nil => rw [hl] at h1; cases h1
  | cons x r =>
    rw [hl] at h1
    obtain rfl : x = c := by simpa using h1
    rfl
/-- What RangeOf gives back: the ends and the code. -/
def ranX (s : ByteArray) : Int × Int × Int :=
  if s.size = 0 ∨ numV (s.extract 1 s.size) < 0 ∨ belowN (hdN s) (numV (s.extract 1 s.size)).toNat = 0 then (0, 0, 6)
  else (numV (s.extract 1 s.size), (belowN (hdN s) (numV (s.extract 1 s.size)).toNat : Int), 0)
def retRan (x : Int × Int × Int) : Value := .tuple #[.agg #[.int .i64 x.1, .int .i64 x.2.1], .int .i64 x.2.2]
theorem retRan_mk (a b c : Int) : retRan (a, b, c) = .tuple #[.agg #[.int .i64 a, .int .i64 b], .int .i64 c] := rfl
theorem ranX_none {s : ByteArray} (h : numV (s.extract 1 s.size) = -1) : ranX s = (0, 0, 6) := by unfold ranX; rw [h]; exact if_pos (.inr (.inl (by decide)))
theorem ranX_short {s : ByteArray} (h : s.size < 2) : ranX s = (0, 0, 6) := ranX_none (numV_small (by rw [extract_size1]; omega))
theorem ranX_zero {s : ByteArray} {m : Nat} (h : numV (s.extract 1 s.size) = (m : Int)) (h0 : belowN (hdN s) m = 0) : ranX s = (0, 0, 6) := by
  unfold ranX
  rw [h]
  exact if_pos (.inr (.inr h0))
theorem ranX_some {s : ByteArray} {m : Nat} (hs : 0 < s.size) (h : numV (s.extract 1 s.size) = (m : Int)) (h0 : belowN (hdN s) m ≠ 0) : ranX s = ((m : Int), (belowN (hdN s) m : Int), 0) := by
  unfold ranX
  rw [h]
  exact if_neg (by rintro (h1 | h1 | h1) <;> first | omega | exact h0 h1)
set_option maxHeartbeats 1000000 in
theorem l02Below_any (c n : Nat) (_hc : c < 256) (hn : n ≤ 999999999) (w : World) :
    Calls Tryd.prog 37 #[.int .u8 c, .int .i64 n] w fun e w' => e = .returned (.int .i64 (belowN c n)) ∧ w = w' := by
  by_cases h : c = 61 ∨ c = 126 ∨ c = 94 ∨ c = 62
  · exact l02Below_s c n _ h hn rfl w
  · have h1 : ¬ (c : Int) = 61 := by omega
    have h2 : ¬ (c : Int) = 126 := by omega
    have h3 : ¬ (c : Int) = 94 := by omega
    have h4 : ¬ (c : Int) = 62 := by omega
    have g1 : ((c : Int) == 61) = false := by simp [h1]
    have g2 : ((c : Int) == 126) = false := by simp [h2]
    have g3 : ((c : Int) == 94) = false := by simp [h3]
    have g4 : ((c : Int) == 62) = false := by simp [h4]
    have HV := Lib.hid (show belowN c n = 0 by unfold belowN; rw [if_neg (by omega), if_neg (by omega), if_neg (by omega), if_neg (by omega)])
    clear h h1 h2 h3 h4
    go_enter Tryd.func37, Tryd.ntmps37
    go_wp2
    go_ret
    exact ⟨ret_eq (by rw [HV.out]; rfl), rfl⟩
set_option maxHeartbeats 1000000 in
theorem belowOf_any (c : UInt8) (n : Nat) (hn : n ≤ 999999999) (w : World) :
    Calls Tryd.prog 38 #[.string ⟨#[c]⟩, .int .i64 n] w fun e w' => e = .returned (.int .i64 (belowN c.toNat n)) ∧ w = w' := by
  by_cases h : c.toNat = 61 ∨ c.toNat = 126 ∨ c.toNat = 94 ∨ c.toNat = 62
  · refine belowOf_i c.toNat n _ _ ?_ hn rfl w
    have e : ∀ k : UInt8, c.toNat = k.toNat → c = k := fun k hk => UInt8.toNat_inj.1 hk
    rcases h with h | h | h | h
    · exact .inl ⟨h, by rw [e 61 h]⟩
    · exact .inr (.inl ⟨h, by rw [e 126 h]⟩)
    · exact .inr (.inr (.inl ⟨h, by rw [e 94 h]⟩))
    · exact .inr (.inr (.inr ⟨h, by rw [e 62 h]⟩))
  · have HV := Lib.hid (show belowN c.toNat n = 0 by unfold belowN; rw [if_neg (by omega), if_neg (by omega), if_neg (by omega), if_neg (by omega)])
    have ne : ∀ k : UInt8, ¬ c.toNat = k.toNat → ((⟨#[c]⟩ : ByteArray).toList == [k]) = false := fun k hk => by
      have e : (⟨#[c]⟩ : ByteArray).toList = [c] := ByteArray.toList_eq _
      rw [e]
      simp only [List.cons_beq_cons, List.beq_nil_eq, Bool.and_eq_false_iff]
      exact .inl (by rw [beq_eq_false_iff_ne]; exact fun e => hk (by rw [e]))
    have n1 := ne 61 (fun e => h (.inl e))
    have n2 := ne 126 (fun e => h (.inr (.inl e)))
    have n3 := ne 94 (fun e => h (.inr (.inr (.inl e))))
    have n4 := ne 62 (fun e => h (.inr (.inr (.inr e))))
    clear h ne
    generalize (⟨#[c]⟩ : ByteArray) = X at *
    go_enter Tryd.func38, Tryd.ntmps38

    go_wp2
    go_ret
    exact ⟨ret_eq (by rw [HV.out]; rfl), rfl⟩
end Go.Proofs.YtadngjalhekmlaaDoor
