/- Tokens: by the program: a byte. -/
import Derived.Test.YtofihcahimdbhaaTokV
namespace Go.Proofs.Ytofihcahimdbhaa
open Go.RowKit Go.PlainAid

def byteOr (s : ByteArray) (k : Nat) : Int := if k < s.size then bt s k else 0
set_option maxHeartbeats 2000000 in
set_option maxRecDepth 20000 in
theorem byteAt_i (s : ByteArray) (k : Nat) (b : Nat) (a l v : Value) (t : TypeId) (fz : Nat × Nat) (w : World) (hw : w.heap[b]? = some (.cells #[.string s, a, l, v] t fz)) :
    Calls Try.prog 27 #[.pointer (some ⟨b, 0, none⟩), .int .i64 k] w fun e w' => e = .returned (.int .u8 (byteOr s k)) ∧ w = w' := by
  have hc : w.cell? ⟨b, 0, none⟩ = some (.string s) := by simp [World.cell?, hw]
  by_cases h : k < s.size
  · have h1 : (k : Int) < (s.size : Int) := by omega
    have h0 : ¬ ((s.size : Int) ≤ (k : Int)) := by omega
    have e1 : byteOr s k = bt s k := if_pos h
    rw [e1]
    go_enter Try.func27, Try.ntmps27
    go_wp2
    exact bodyPost_ret (v := .int .u8 (bt s k)) (by simp [results, Try.results27, go_sem]; first | exact get_bt s k h | simp [bt, h]) rfl ⟨rfl, rfl⟩
  · have h0 : (s.size : Int) ≤ (k : Int) := by omega
    have e1 : byteOr s k = 0 := if_neg h
    rw [e1]
    go_enter Try.func27, Try.ntmps27
    go_wp2
    exact bodyPost_ret (v := .int .u8 0) (by simp [results, Try.results27, go_sem]) rfl ⟨rfl, rfl⟩
end Go.Proofs.Ytofihcahimdbhaa
