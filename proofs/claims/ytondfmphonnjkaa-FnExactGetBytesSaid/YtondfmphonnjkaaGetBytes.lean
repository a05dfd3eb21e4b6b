/- GetBytes: what the program's and the reference's function compute, and the law. -/
import Derived.Test.YtondfmphonnjkaaGetLeb
namespace Go.Proofs.Ytondfmphonnjkaa
open Go.RowKit

theorem lengthI (s : ByteArray) (w : World) (_hs : s.size ≤ 4611686018427387904) :
    Calls Try.prog 59 #[.string s] w fun e w' => e = .returned (.int .i64 s.size) ∧ w = w' := by
  go_enter Try.func59, Try.ntmps59
  go_wp2
  go_ret
  exact ⟨rfl, rfl⟩
/-- There is a number, and as many bytes behind it. -/
def getBytes (s : ByteArray) : ByteArray × Nat × Bool :=
  if (getLeb s.data.toList).2.2 = true ∧ (getLeb s.data.toList).1 + (getLeb s.data.toList).2.1 ≤ s.size then
    (s.extract (getLeb s.data.toList).2.1 ((getLeb s.data.toList).2.1 + (getLeb s.data.toList).1), (getLeb s.data.toList).2.1 + (getLeb s.data.toList).1, true) else (⟨#[]⟩, 0, false)
def RetBytes (s : ByteArray) (w : World) (e : Ending) (w' : World) : Prop := e = .returned (.tuple #[.string (getBytes s).1, .int .i64 (getBytes s).2.1, .bool (getBytes s).2.2]) ∧ Below w.heap.size w w'
theorem getLeb_le (l : List UInt8) : (getLeb l).2.1 ≤ l.length ∧ (getLeb l).2.1 ≤ 9 ∧ (getLeb l).1 < 9223372036854775808 := by
  cases hm : lebLen 9 l with
  | zero => simp [getLeb, hm]
  | succ m =>
    obtain ⟨h1, h2, hg⟩ := getLeb_cases l m hm
    rw [hg]
    split
    · refine ⟨by simp; omega, by simp; omega, ?_⟩
      have := lebVal_lt (l.take (m + 1))
      rw [List.length_take] at this
      have hp : (2 : Nat) ^ (7 * min (m + 1) l.length) ≤ 2 ^ 63 := Nat.pow_le_pow_right (by decide) (by omega)
      simp only
      omega
    · simp

theorem getBytes_s (s : ByteArray) (hs : s.size ≤ 4611686018427387904) (w : World) : Calls Try.prog 29 #[.string s] w (RetBytes s w) := by
  have hsm : s.size ≤ maxLen := by unfold maxLen; omega
  have hc := fun w => getLeb_s s hsm w
  obtain ⟨h1, h2, h3⟩ := getLeb_le s.data.toList
  have hsl : s.data.toList.length = s.size := by simp
  rw [hsl] at h1
  generalize hg : getLeb s.data.toList = r at *
  obtain ⟨n, q, ok⟩ := r
  simp only at h1 h2 h3 hc
  have HC := Lib.hid hc
  have HG := Lib.hid hg
  clear hc hg
  cases ok
  · have e : getBytes s = (⟨#[]⟩, 0, false) := by rw [getBytes, HG.out]; simp
    have E := Lib.hid e
    clear e
    go_enter Try.func29, Try.ntmps29
    go_wp2_with (go_at_call 57; refine (HC.out _).mono ?_; rintro e w1 ⟨rfl, hb1⟩)
    go_ret3
    exact ⟨by rw [E.out]; rfl, hb1⟩
  · by_cases hle : n + q ≤ s.size
    · have e : getBytes s = (s.extract q (q + n), q + n, true) := by rw [getBytes, HG.out]; simp [hle]
      have E := Lib.hid e
      clear e
      have g0 : (n : Int) ≤ (s.size : Int) - q := by omega
      go_enter Try.func29, Try.ntmps29
      go_wp2_with (go_at_call 57; refine (HC.out _).mono ?_; rintro e w1 ⟨rfl, hb1⟩)
      go_ret3
      exact ⟨ret_eq (by rw [E.out]; show _ = Value.tuple #[_, .int .i64 ((q + n : Nat) : Int), _]; rw [Int.natCast_add]; rfl), hb1⟩
    · have e : getBytes s = (⟨#[]⟩, 0, false) := by rw [getBytes, HG.out]; simp [hle]
      have E := Lib.hid e
      clear e
      have g0 : (s.size : Int) - q < (n : Int) := by omega
      go_enter Try.func29, Try.ntmps29
      go_wp2_with (go_at_call 57; refine (HC.out _).mono ?_; rintro e w1 ⟨rfl, hb1⟩)
      go_ret3
      exact ⟨by rw [E.out]; rfl, hb1⟩
theorem getBytes_i (s : ByteArray) (hs : s.size ≤ 4611686018427387904) (w : World) : Calls Try.prog 30 #[.string s] w (RetBytes s w) := by
  have hsm : s.size ≤ maxLen := by unfold maxLen; omega
  have hc := fun w => getLeb_i s hsm w
  obtain ⟨h1, h2, h3⟩ := getLeb_le s.data.toList
  have hsl : s.data.toList.length = s.size := by simp
  rw [hsl] at h1
  generalize hg : getLeb s.data.toList = r at *
  obtain ⟨n, q, ok⟩ := r
  simp only at h1 h2 h3 hc
  have HC := Lib.hid hc
  have HG := Lib.hid hg
  clear hc hg
  cases ok
  · have e : getBytes s = (⟨#[]⟩, 0, false) := by rw [getBytes, HG.out]; simp
    have E := Lib.hid e
    clear e
    go_enter Try.func30, Try.ntmps30
    go_wp2_with (first
      | (go_at_call 58; refine (HC.out _).mono ?_; rintro e w1 ⟨rfl, rfl⟩)
      | (go_at_call 59; refine (lengthI s _ hs).mono ?_; rintro e w1 ⟨rfl, rfl⟩))
    go_ret3
    exact ⟨by rw [E.out]; rfl, Below.refl _ _⟩
  · by_cases hle : n + q ≤ s.size
    · have e : getBytes s = (s.extract q (q + n), q + n, true) := by rw [getBytes, HG.out]; simp [hle]
      have E := Lib.hid e
      clear e
      have g0 : (n : Int) ≤ (s.size : Int) - q := by omega
      go_enter Try.func30, Try.ntmps30
      go_wp2_with (first
      | (go_at_call 58; refine (HC.out _).mono ?_; rintro e w1 ⟨rfl, rfl⟩)
      | (go_at_call 59; refine (lengthI s _ hs).mono ?_; rintro e w1 ⟨rfl, rfl⟩))
      go_ret3
      exact ⟨ret_eq (by rw [E.out]; show _ = Value.tuple #[_, .int .i64 ((q + n : Nat) : Int), _]; rw [Int.natCast_add]; rfl), Below.refl _ _⟩
    · have e : getBytes s = (⟨#[]⟩, 0, false) := by rw [getBytes, HG.out]; simp [hle]
      have E := Lib.hid e
      clear e
      have g0 : (s.size : Int) - q < (n : Int) := by omega
      go_enter Try.func30, Try.ntmps30
      go_wp2_with (first
      | (go_at_call 58; refine (HC.out _).mono ?_; rintro e w1 ⟨rfl, rfl⟩)
      | (go_at_call 59; refine (lengthI s _ hs).mono ?_; rintro e w1 ⟨rfl, rfl⟩))
      go_ret3
      exact ⟨by rw [E.out]; rfl, Below.refl _ _⟩
theorem law_FnExactGetBytes (s : ByteArray) (_ : s.size ≤ maxLen) (w : World) :
    Calls Try.prog 9 #[.string s] w fun e w' => e = .returned (.bool true) ∧ Below w.heap.size w w' := by
  by_cases hb : s.size ≤ 1048576
  · have hs : s.size ≤ 4611686018427387904 := by omega
    go_enter Try.func9, Try.ntmps9
    go_wp2_with (first
      | (go_at_call 29; refine (getBytes_s s hs _).mono ?_; rintro e w1 ⟨rfl, hb1⟩)
      | (go_at_call 30; refine (getBytes_i s hs _).mono ?_; rintro e w2 ⟨rfl, hb2⟩))
    go_ret
    exact ⟨rfl, hb1.trans (hb2.mono hb1.size)⟩
  · go_enter Try.func9, Try.ntmps9
    go_wp2
    go_ret
    exact ⟨rfl, Below.refl _ _⟩
end Go.Proofs.Ytondfmphonnjkaa
