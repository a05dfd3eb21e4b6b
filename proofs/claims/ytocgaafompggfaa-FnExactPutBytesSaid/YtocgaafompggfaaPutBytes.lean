/- PutBytes: what the program's and the reference's function compute, and the law. -/
import Derived.Test.YtocgaafompggfaaPutLeb
namespace Go.Proofs.Ytocgaafompggfaa
open Go.RowKit

def putBytes (s : ByteArray) : ByteArray := ⟨(putLeb s.size).toArray⟩ ++ s
theorem putLeb_len (n : Int) (h : n ≤ 9223372036854775807) : (putLeb n).length ≤ 9 := by
  unfold putLeb
  split
  · simp
  · exact leb_len 8 _ (by omega)

theorem length_i (s : ByteArray) (w : World) (_hs : s.size ≤ 4611686018427387904) :
    Calls Try.prog 42 #[.string s] w fun e w' => e = .returned (.int .i64 s.size) ∧ w = w' := by
  go_enter Try.func42, Try.ntmps42
  go_wp2
  go_ret
  exact ⟨rfl, rfl⟩
theorem putBytes_s (s : ByteArray) (hs : s.size ≤ 4611686018427387904) (w : World) :
    Calls Try.prog 32 #[.string s] w fun e w' => e = .returned (.string (putBytes s)) ∧ Below w.heap.size w w' := by
  have hl := putLeb_len s.size (by omega)
  go_enter Try.func32, Try.ntmps32
  go_wp2_with (go_at_call 28; refine (putLeb_s _ (by omega) _).mono ?_; rintro e w1 ⟨rfl, hb1⟩)
  go_ret
  exact ⟨rfl, hb1⟩
theorem putBytes_i (s : ByteArray) (hs : s.size ≤ 4611686018427387904) (w : World) :
    Calls Try.prog 33 #[.string s] w fun e w' => e = .returned (.string (putBytes s)) ∧ Below w.heap.size w w' := by
  have hl := putLeb_len s.size (by omega)
  go_enter Try.func33, Try.ntmps33
  go_wp2_with (first
    | (go_at_call 29; refine (putLeb_i _ (by omega) _).mono ?_; rintro e w1 ⟨rfl, hb1⟩)
    | (go_at_call 42; refine (length_i _ _ (by omega)).mono ?_; rintro e w1 ⟨rfl, rfl⟩))
  go_ret
  exact ⟨rfl, hb1⟩
theorem law_FnExactPutBytes (s : ByteArray) (_ : s.size ≤ maxLen) (w : World) :
    Calls Try.prog 12 #[.string s] w fun e w' => e = .returned (.bool true) ∧ Below w.heap.size w w' := by
  by_cases hb : s.size ≤ 1048576
  · have hs : s.size ≤ 4611686018427387904 := by omega
    go_enter Try.func12, Try.ntmps12
    go_wp2_with (first
      | (go_at_call 32; refine (putBytes_s s hs _).mono ?_; rintro e w1 ⟨rfl, hb1⟩)
      | (go_at_call 33; refine (putBytes_i s hs _).mono ?_; rintro e w2 ⟨rfl, hb2⟩))
    go_ret
    exact ⟨rfl, hb1.trans (hb2.mono hb1.size)⟩
  · go_enter Try.func12, Try.ntmps12
    go_wp2
    go_ret
    exact ⟨rfl, Below.refl _ _⟩
set_option maxRecDepth 20000 in
theorem law_FnExactConstants (w : World) : Calls Try.prog 3 #[] w fun e w' => e = .returned (.bool true) ∧ Below w.heap.size w w' := by
  go_enter Try.func3, Try.ntmps3
  go_wp2
  go_ret
  exact ⟨rfl, Below.refl _ _⟩
end Go.Proofs.Ytocgaafompggfaa
