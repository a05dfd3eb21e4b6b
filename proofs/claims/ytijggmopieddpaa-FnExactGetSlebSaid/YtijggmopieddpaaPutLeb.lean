/- PutLeb: what the program's and the reference's function compute. -/
import Derived.Test.YtijggmopieddpaaCore
namespace Go.Proofs.Ytijggmopieddpaa
open Go.RowKit

/-- The shortest unsigned encoding. -/
def leb (n : Nat) : List UInt8 := if n > 127 then UInt8.ofNat (n % 128 + 128) :: leb (n / 128) else [UInt8.ofNat n]
termination_by n
decreasing_by omega

theorem leb_len (d n : Nat) (h : n < 128 ^ (d + 1)) : (leb n).length ≤ d + 1 := by
  induction d generalizing n with
  | zero => rw [leb, if_neg (by omega)]; simp
  | succ d ih =>
    rw [leb]
    split
    · have := ih (n / 128) (by rw [Nat.div_lt_iff_lt_mul (by omega)]; rw [Nat.pow_succ] at h; exact h)
      simp; omega
    · simp

def putLeb (n : Int) : List UInt8 := if n < 0 then [] else leb n.toNat

end Go.Proofs.Ytijggmopieddpaa
