/-
  No cell of these rows narrows 'for every input' (looked for: loops, veiled, ifaces, maps, wideKeys, modest, calm, conditions, laid).
  DERIVED. THE GIVEN ROWS OF THIS SEAT. 12 by the template 'for every input the law returns true; each argument reads behind the call as it read before'; 0 by the template 'total and deterministic' (their statements: YtocgaafompggfaaTotals.lean).
  GIVEN WITH THE SEED: the statements are not yours to turn. If you find one false, say at which input.
  Laid BY PROGRAM, IN A SANDBOX (cutbox-rows.mjs): the forced cells as the released guide's own fill.sh prints them over the translation fb5a15a5e7ce5da8… (all of the seat's roots in one cut). By AI agents, Wed Nov 11 2026. No macro, syntax, notation, axiom, sorry.
-/
import Derived.Test.YtocgaafompggfaaChecked
import GoSem.Claim
import GoSem.ClaimJoined
import GoSem.ClaimMapViews
import Derived.JoinedTies
import Derived.KernelRfl
namespace Go.Proofs.Ytocgaafompggfaa
/- THE CELL 'sum', in the pinned program and in every row, IS THE sha256 OF THE DUMP (.gsa) THAT YtocgaafompggfaaProg.lean LOADS. Nothing in Lean hashes anything: it is a label: what it is worth is what the hold of that sum in a sandbox is worth. -/
noncomputable def Try.pinned : Pinned := { name := "ytocgaafompggfaa", sum := "fb5a15a5e7ce5da8ecdc7d43b787601728a17b0b4542136baf4ebe24202cbd3c", checked := Try.checked }
namespace Rows
def none {H : Type} : Left H := { results := [], args := [] }

/-- 'laws.FnExactConstants': WHATEVER THE INPUT: true; the input reads as it did. -/
def fnExactConstantsSpec : ChangeSpec := { name := "fnExactConstants", fn := fun _ => fun
  | [] => { results := [.lit (.bool true)], args := [] }
  | _ => none }
def fnExactConstantsRow : OpenClaim := { program := "ytocgaafompggfaa", sum := "fb5a15a5e7ce5da8ecdc7d43b787601728a17b0b4542136baf4ebe24202cbd3c", func := "loop.example/g00901/laws.FnExactConstants", spec := "fnExactConstants", apart := false }
def FnExactConstantsSaid : Prop := fnExactConstantsRow.holds Try.pinned (OpenSpec.ofChange fnExactConstantsSpec)

/-- ITS FALSE NEIGHBOUR: 'it returns false'. Refute it at one input. -/
def fnExactConstantsWrong : ChangeSpec := { name := "fnExactConstants", fn := fun _ => fun
  | [] => { results := [.lit (.bool false)], args := [] }
  | _ => none }
def FnExactConstantsWrongFalsely : Prop := fnExactConstantsRow.holds Try.pinned (OpenSpec.ofChange fnExactConstantsWrong)

/-- 'laws.FnExactCharOk': WHATEVER THE INPUT: true; the input reads as it did. -/
def fnExactCharOkSpec : ChangeSpec := { name := "fnExactCharOk", fn := fun _ => fun
  | [d] => { results := [.lit (.bool true)], args := [d] }
  | _ => none }
def fnExactCharOkRow : OpenClaim := { program := "ytocgaafompggfaa", sum := "fb5a15a5e7ce5da8ecdc7d43b787601728a17b0b4542136baf4ebe24202cbd3c", func := "loop.example/g00901/laws.FnExactCharOk", spec := "fnExactCharOk", apart := false }
def FnExactCharOkSaid : Prop := fnExactCharOkRow.holds Try.pinned (OpenSpec.ofChange fnExactCharOkSpec)

/-- ITS FALSE NEIGHBOUR: 'it returns false'. Refute it at one input. -/
def fnExactCharOkWrong : ChangeSpec := { name := "fnExactCharOk", fn := fun _ => fun
  | [d] => { results := [.lit (.bool false)], args := [d] }
  | _ => none }
def FnExactCharOkWrongFalsely : Prop := fnExactCharOkRow.holds Try.pinned (OpenSpec.ofChange fnExactCharOkWrong)

/-- 'laws.FnExactRangeOk': WHATEVER THE INPUT: true; the input reads as it did. -/
def fnExactRangeOkSpec : ChangeSpec := { name := "fnExactRangeOk", fn := fun _ => fun
  | [d] => { results := [.lit (.bool true)], args := [d] }
  | _ => none }
def fnExactRangeOkRow : OpenClaim := { program := "ytocgaafompggfaa", sum := "fb5a15a5e7ce5da8ecdc7d43b787601728a17b0b4542136baf4ebe24202cbd3c", func := "loop.example/g00901/laws.FnExactRangeOk", spec := "fnExactRangeOk", apart := false }
def FnExactRangeOkSaid : Prop := fnExactRangeOkRow.holds Try.pinned (OpenSpec.ofChange fnExactRangeOkSpec)

/-- ITS FALSE NEIGHBOUR: 'it returns false'. Refute it at one input. -/
def fnExactRangeOkWrong : ChangeSpec := { name := "fnExactRangeOk", fn := fun _ => fun
  | [d] => { results := [.lit (.bool false)], args := [d] }
  | _ => none }
def FnExactRangeOkWrongFalsely : Prop := fnExactRangeOkRow.holds Try.pinned (OpenSpec.ofChange fnExactRangeOkWrong)

/-- 'laws.FnExactGetFix': WHATEVER THE INPUT: true; the input reads as it did. -/
def fnExactGetFixSpec : ChangeSpec := { name := "fnExactGetFix", fn := fun _ => fun
  | [d] => { results := [.lit (.bool true)], args := [d] }
  | _ => none }
def fnExactGetFixRow : OpenClaim := { program := "ytocgaafompggfaa", sum := "fb5a15a5e7ce5da8ecdc7d43b787601728a17b0b4542136baf4ebe24202cbd3c", func := "loop.example/g00901/laws.FnExactGetFix", spec := "fnExactGetFix", apart := false }
def FnExactGetFixSaid : Prop := fnExactGetFixRow.holds Try.pinned (OpenSpec.ofChange fnExactGetFixSpec)

/-- ITS FALSE NEIGHBOUR: 'it returns false'. Refute it at one input. -/
def fnExactGetFixWrong : ChangeSpec := { name := "fnExactGetFix", fn := fun _ => fun
  | [d] => { results := [.lit (.bool false)], args := [d] }
  | _ => none }
def FnExactGetFixWrongFalsely : Prop := fnExactGetFixRow.holds Try.pinned (OpenSpec.ofChange fnExactGetFixWrong)

/-- 'laws.FnExactPutSleb': WHATEVER THE INPUT: true; the input reads as it did. -/
def fnExactPutSlebSpec : ChangeSpec := { name := "fnExactPutSleb", fn := fun _ => fun
  | [d] => { results := [.lit (.bool true)], args := [d] }
  | _ => none }
def fnExactPutSlebRow : OpenClaim := { program := "ytocgaafompggfaa", sum := "fb5a15a5e7ce5da8ecdc7d43b787601728a17b0b4542136baf4ebe24202cbd3c", func := "loop.example/g00901/laws.FnExactPutSleb", spec := "fnExactPutSleb", apart := false }
def FnExactPutSlebSaid : Prop := fnExactPutSlebRow.holds Try.pinned (OpenSpec.ofChange fnExactPutSlebSpec)

/-- ITS FALSE NEIGHBOUR: 'it returns false'. Refute it at one input. -/
def fnExactPutSlebWrong : ChangeSpec := { name := "fnExactPutSleb", fn := fun _ => fun
  | [d] => { results := [.lit (.bool false)], args := [d] }
  | _ => none }
def FnExactPutSlebWrongFalsely : Prop := fnExactPutSlebRow.holds Try.pinned (OpenSpec.ofChange fnExactPutSlebWrong)

/-- 'laws.FnExactCodeWord': WHATEVER THE INPUT: true; the input reads as it did. -/
def fnExactCodeWordSpec : ChangeSpec := { name := "fnExactCodeWord", fn := fun _ => fun
  | [d] => { results := [.lit (.bool true)], args := [d] }
  | _ => none }
def fnExactCodeWordRow : OpenClaim := { program := "ytocgaafompggfaa", sum := "fb5a15a5e7ce5da8ecdc7d43b787601728a17b0b4542136baf4ebe24202cbd3c", func := "loop.example/g00901/laws.FnExactCodeWord", spec := "fnExactCodeWord", apart := false }
def FnExactCodeWordSaid : Prop := fnExactCodeWordRow.holds Try.pinned (OpenSpec.ofChange fnExactCodeWordSpec)

/-- ITS FALSE NEIGHBOUR: 'it returns false'. Refute it at one input. -/
def fnExactCodeWordWrong : ChangeSpec := { name := "fnExactCodeWord", fn := fun _ => fun
  | [d] => { results := [.lit (.bool false)], args := [d] }
  | _ => none }
def FnExactCodeWordWrongFalsely : Prop := fnExactCodeWordRow.holds Try.pinned (OpenSpec.ofChange fnExactCodeWordWrong)

/-- 'laws.FnExactPutHex': WHATEVER THE INPUT: true; the input reads as it did. -/
def fnExactPutHexSpec : ChangeSpec := { name := "fnExactPutHex", fn := fun _ => fun
  | [d] => { results := [.lit (.bool true)], args := [d] }
  | _ => none }
def fnExactPutHexRow : OpenClaim := { program := "ytocgaafompggfaa", sum := "fb5a15a5e7ce5da8ecdc7d43b787601728a17b0b4542136baf4ebe24202cbd3c", func := "loop.example/g00901/laws.FnExactPutHex", spec := "fnExactPutHex", apart := false }
def FnExactPutHexSaid : Prop := fnExactPutHexRow.holds Try.pinned (OpenSpec.ofChange fnExactPutHexSpec)

/-- ITS FALSE NEIGHBOUR: 'it returns false'. Refute it at one input. -/
def fnExactPutHexWrong : ChangeSpec := { name := "fnExactPutHex", fn := fun _ => fun
  | [d] => { results := [.lit (.bool false)], args := [d] }
  | _ => none }
def FnExactPutHexWrongFalsely : Prop := fnExactPutHexRow.holds Try.pinned (OpenSpec.ofChange fnExactPutHexWrong)

/-- 'laws.FnExactPutLeb': WHATEVER THE INPUT: true; the input reads as it did. -/
def fnExactPutLebSpec : ChangeSpec := { name := "fnExactPutLeb", fn := fun _ => fun
  | [d] => { results := [.lit (.bool true)], args := [d] }
  | _ => none }
def fnExactPutLebRow : OpenClaim := { program := "ytocgaafompggfaa", sum := "fb5a15a5e7ce5da8ecdc7d43b787601728a17b0b4542136baf4ebe24202cbd3c", func := "loop.example/g00901/laws.FnExactPutLeb", spec := "fnExactPutLeb", apart := false }
def FnExactPutLebSaid : Prop := fnExactPutLebRow.holds Try.pinned (OpenSpec.ofChange fnExactPutLebSpec)

/-- ITS FALSE NEIGHBOUR: 'it returns false'. Refute it at one input. -/
def fnExactPutLebWrong : ChangeSpec := { name := "fnExactPutLeb", fn := fun _ => fun
  | [d] => { results := [.lit (.bool false)], args := [d] }
  | _ => none }
def FnExactPutLebWrongFalsely : Prop := fnExactPutLebRow.holds Try.pinned (OpenSpec.ofChange fnExactPutLebWrong)

/-- 'laws.FnExactPutFix': WHATEVER THE INPUT: true; the input reads as it did. -/
def fnExactPutFixSpec : ChangeSpec := { name := "fnExactPutFix", fn := fun _ => fun
  | [d1, d2] => { results := [.lit (.bool true)], args := [d1, d2] }
  | _ => none }
def fnExactPutFixRow : OpenClaim := { program := "ytocgaafompggfaa", sum := "fb5a15a5e7ce5da8ecdc7d43b787601728a17b0b4542136baf4ebe24202cbd3c", func := "loop.example/g00901/laws.FnExactPutFix", spec := "fnExactPutFix", apart := false }
def FnExactPutFixSaid : Prop := fnExactPutFixRow.holds Try.pinned (OpenSpec.ofChange fnExactPutFixSpec)

/-- ITS FALSE NEIGHBOUR: 'it returns false'. Refute it at one input. -/
def fnExactPutFixWrong : ChangeSpec := { name := "fnExactPutFix", fn := fun _ => fun
  | [d1, d2] => { results := [.lit (.bool false)], args := [d1, d2] }
  | _ => none }
def FnExactPutFixWrongFalsely : Prop := fnExactPutFixRow.holds Try.pinned (OpenSpec.ofChange fnExactPutFixWrong)

/-- 'laws.FnExactPutBytes': WHATEVER THE INPUT: true; the input reads as it did. -/
def fnExactPutBytesSpec : ChangeSpec := { name := "fnExactPutBytes", fn := fun _ => fun
  | [d] => { results := [.lit (.bool true)], args := [d] }
  | _ => none }
def fnExactPutBytesRow : OpenClaim := { program := "ytocgaafompggfaa", sum := "fb5a15a5e7ce5da8ecdc7d43b787601728a17b0b4542136baf4ebe24202cbd3c", func := "loop.example/g00901/laws.FnExactPutBytes", spec := "fnExactPutBytes", apart := false }
def FnExactPutBytesSaid : Prop := fnExactPutBytesRow.holds Try.pinned (OpenSpec.ofChange fnExactPutBytesSpec)

/-- ITS FALSE NEIGHBOUR: 'it returns false'. Refute it at one input. -/
def fnExactPutBytesWrong : ChangeSpec := { name := "fnExactPutBytes", fn := fun _ => fun
  | [d] => { results := [.lit (.bool false)], args := [d] }
  | _ => none }
def FnExactPutBytesWrongFalsely : Prop := fnExactPutBytesRow.holds Try.pinned (OpenSpec.ofChange fnExactPutBytesWrong)

/-- 'laws.FnExactNameOk': WHATEVER THE INPUT: true; the input reads as it did. -/
def fnExactNameOkSpec : ChangeSpec := { name := "fnExactNameOk", fn := fun _ => fun
  | [d] => { results := [.lit (.bool true)], args := [d] }
  | _ => none }
def fnExactNameOkRow : OpenClaim := { program := "ytocgaafompggfaa", sum := "fb5a15a5e7ce5da8ecdc7d43b787601728a17b0b4542136baf4ebe24202cbd3c", func := "loop.example/g00901/laws.FnExactNameOk", spec := "fnExactNameOk", apart := false }
def FnExactNameOkSaid : Prop := fnExactNameOkRow.holds Try.pinned (OpenSpec.ofChange fnExactNameOkSpec)

/-- ITS FALSE NEIGHBOUR: 'it returns false'. Refute it at one input. -/
def fnExactNameOkWrong : ChangeSpec := { name := "fnExactNameOk", fn := fun _ => fun
  | [d] => { results := [.lit (.bool false)], args := [d] }
  | _ => none }
def FnExactNameOkWrongFalsely : Prop := fnExactNameOkRow.holds Try.pinned (OpenSpec.ofChange fnExactNameOkWrong)

/-- 'laws.FnExactGetLeb': WHATEVER THE INPUT: true; the input reads as it did. -/
def fnExactGetLebSpec : ChangeSpec := { name := "fnExactGetLeb", fn := fun _ => fun
  | [d] => { results := [.lit (.bool true)], args := [d] }
  | _ => none }
def fnExactGetLebRow : OpenClaim := { program := "ytocgaafompggfaa", sum := "fb5a15a5e7ce5da8ecdc7d43b787601728a17b0b4542136baf4ebe24202cbd3c", func := "loop.example/g00901/laws.FnExactGetLeb", spec := "fnExactGetLeb", apart := false }
def FnExactGetLebSaid : Prop := fnExactGetLebRow.holds Try.pinned (OpenSpec.ofChange fnExactGetLebSpec)

/-- ITS FALSE NEIGHBOUR: 'it returns false'. Refute it at one input. -/
def fnExactGetLebWrong : ChangeSpec := { name := "fnExactGetLeb", fn := fun _ => fun
  | [d] => { results := [.lit (.bool false)], args := [d] }
  | _ => none }
def FnExactGetLebWrongFalsely : Prop := fnExactGetLebRow.holds Try.pinned (OpenSpec.ofChange fnExactGetLebWrong)

/- THE SECOND FORM. 'bulk': how many values and letters a reading holds, each counted each time it is reached (what is shared counts as often as it is met; a slice's spare places count too). A statement '..UptoSaid' is the law's where the arguments, and the package variables that the reading takes, are together of bulk at most 1048576: NARROWER than '..Said'. Prove '..Said' where nothing that the law and all that it calls make is longer than what came in: it says more and counts as full. Else prove '..UptoSaid'. A law counts once. -/
mutual
def uptoBulk {H : Type} : DataW H → Nat
  | .lit (.string bytes) => bytes.length + 1
  | .lit _ => 1
  | .nil => 1
  | .ptr d => uptoBulk d + 1
  | .slice elems spare => uptoBulkAll elems + uptoBulkAll spare + 1
  | .agg parts => uptoBulkAll parts + 1
  | .iface _ d => uptoBulk d + 1
  | .map entries => uptoBulkEntries entries + 1
  | .held _ => 1
def uptoBulkAll {H : Type} : List (DataW H) → Nat
  | [] => 0
  | d :: r => uptoBulk d + uptoBulkAll r
def uptoBulkEntries {H : Type} : List (Lit × DataW H) → Nat
  | [] => 0
  | x :: r => uptoBulkEntry x + uptoBulkEntries r
def uptoBulkEntry {H : Type} : Lit × DataW H → Nat
  | (.string bytes, d) => bytes.length + uptoBulk d + 1
  | (_, d) => uptoBulk d + 1
 end
def uptoSmall : (H : Type) → List (DataW H) → Bool := fun _ ds => decide (uptoBulkAll ds ≤ 1048576)
def OpenSpec.upto (s : _root_.Go.ChangeSpec) : _root_.Go.OpenSpec := { _root_.Go.OpenSpec.ofChange s with cond := some uptoSmall }

/-- 'laws.FnExactConstants', WHERE WHAT IT READS IS OF BULK AT MOST 1048576: true; the input reads as it did. -/
def fnExactConstantsUptoRow : OpenClaim := { program := "ytocgaafompggfaa", sum := "fb5a15a5e7ce5da8ecdc7d43b787601728a17b0b4542136baf4ebe24202cbd3c", func := "loop.example/g00901/laws.FnExactConstants", spec := "fnExactConstants", apart := false, narrowed := true }
def FnExactConstantsUptoSaid : Prop := fnExactConstantsUptoRow.holds Try.pinned (OpenSpec.upto fnExactConstantsSpec)

/-- 'laws.FnExactCharOk', WHERE WHAT IT READS IS OF BULK AT MOST 1048576: true; the input reads as it did. -/
def fnExactCharOkUptoRow : OpenClaim := { program := "ytocgaafompggfaa", sum := "fb5a15a5e7ce5da8ecdc7d43b787601728a17b0b4542136baf4ebe24202cbd3c", func := "loop.example/g00901/laws.FnExactCharOk", spec := "fnExactCharOk", apart := false, narrowed := true }
def FnExactCharOkUptoSaid : Prop := fnExactCharOkUptoRow.holds Try.pinned (OpenSpec.upto fnExactCharOkSpec)

/-- 'laws.FnExactRangeOk', WHERE WHAT IT READS IS OF BULK AT MOST 1048576: true; the input reads as it did. -/
def fnExactRangeOkUptoRow : OpenClaim := { program := "ytocgaafompggfaa", sum := "fb5a15a5e7ce5da8ecdc7d43b787601728a17b0b4542136baf4ebe24202cbd3c", func := "loop.example/g00901/laws.FnExactRangeOk", spec := "fnExactRangeOk", apart := false, narrowed := true }
def FnExactRangeOkUptoSaid : Prop := fnExactRangeOkUptoRow.holds Try.pinned (OpenSpec.upto fnExactRangeOkSpec)

/-- 'laws.FnExactGetFix', WHERE WHAT IT READS IS OF BULK AT MOST 1048576: true; the input reads as it did. -/
def fnExactGetFixUptoRow : OpenClaim := { program := "ytocgaafompggfaa", sum := "fb5a15a5e7ce5da8ecdc7d43b787601728a17b0b4542136baf4ebe24202cbd3c", func := "loop.example/g00901/laws.FnExactGetFix", spec := "fnExactGetFix", apart := false, narrowed := true }
def FnExactGetFixUptoSaid : Prop := fnExactGetFixUptoRow.holds Try.pinned (OpenSpec.upto fnExactGetFixSpec)

/-- 'laws.FnExactPutSleb', WHERE WHAT IT READS IS OF BULK AT MOST 1048576: true; the input reads as it did. -/
def fnExactPutSlebUptoRow : OpenClaim := { program := "ytocgaafompggfaa", sum := "fb5a15a5e7ce5da8ecdc7d43b787601728a17b0b4542136baf4ebe24202cbd3c", func := "loop.example/g00901/laws.FnExactPutSleb", spec := "fnExactPutSleb", apart := false, narrowed := true }
def FnExactPutSlebUptoSaid : Prop := fnExactPutSlebUptoRow.holds Try.pinned (OpenSpec.upto fnExactPutSlebSpec)

/-- 'laws.FnExactCodeWord', WHERE WHAT IT READS IS OF BULK AT MOST 1048576: true; the input reads as it did. -/
def fnExactCodeWordUptoRow : OpenClaim := { program := "ytocgaafompggfaa", sum := "fb5a15a5e7ce5da8ecdc7d43b787601728a17b0b4542136baf4ebe24202cbd3c", func := "loop.example/g00901/laws.FnExactCodeWord", spec := "fnExactCodeWord", apart := false, narrowed := true }
def FnExactCodeWordUptoSaid : Prop := fnExactCodeWordUptoRow.holds Try.pinned (OpenSpec.upto fnExactCodeWordSpec)

/-- 'laws.FnExactPutHex', WHERE WHAT IT READS IS OF BULK AT MOST 1048576: true; the input reads as it did. -/
def fnExactPutHexUptoRow : OpenClaim := { program := "ytocgaafompggfaa", sum := "fb5a15a5e7ce5da8ecdc7d43b787601728a17b0b4542136baf4ebe24202cbd3c", func := "loop.example/g00901/laws.FnExactPutHex", spec := "fnExactPutHex", apart := false, narrowed := true }
def FnExactPutHexUptoSaid : Prop := fnExactPutHexUptoRow.holds Try.pinned (OpenSpec.upto fnExactPutHexSpec)

/-- 'laws.FnExactPutLeb', WHERE WHAT IT READS IS OF BULK AT MOST 1048576: true; the input reads as it did. -/
def fnExactPutLebUptoRow : OpenClaim := { program := "ytocgaafompggfaa", sum := "fb5a15a5e7ce5da8ecdc7d43b787601728a17b0b4542136baf4ebe24202cbd3c", func := "loop.example/g00901/laws.FnExactPutLeb", spec := "fnExactPutLeb", apart := false, narrowed := true }
def FnExactPutLebUptoSaid : Prop := fnExactPutLebUptoRow.holds Try.pinned (OpenSpec.upto fnExactPutLebSpec)

/-- 'laws.FnExactPutFix', WHERE WHAT IT READS IS OF BULK AT MOST 1048576: true; the input reads as it did. -/
def fnExactPutFixUptoRow : OpenClaim := { program := "ytocgaafompggfaa", sum := "fb5a15a5e7ce5da8ecdc7d43b787601728a17b0b4542136baf4ebe24202cbd3c", func := "loop.example/g00901/laws.FnExactPutFix", spec := "fnExactPutFix", apart := false, narrowed := true }
def FnExactPutFixUptoSaid : Prop := fnExactPutFixUptoRow.holds Try.pinned (OpenSpec.upto fnExactPutFixSpec)

/-- 'laws.FnExactPutBytes', WHERE WHAT IT READS IS OF BULK AT MOST 1048576: true; the input reads as it did. -/
def fnExactPutBytesUptoRow : OpenClaim := { program := "ytocgaafompggfaa", sum := "fb5a15a5e7ce5da8ecdc7d43b787601728a17b0b4542136baf4ebe24202cbd3c", func := "loop.example/g00901/laws.FnExactPutBytes", spec := "fnExactPutBytes", apart := false, narrowed := true }
def FnExactPutBytesUptoSaid : Prop := fnExactPutBytesUptoRow.holds Try.pinned (OpenSpec.upto fnExactPutBytesSpec)

/-- 'laws.FnExactNameOk', WHERE WHAT IT READS IS OF BULK AT MOST 1048576: true; the input reads as it did. -/
def fnExactNameOkUptoRow : OpenClaim := { program := "ytocgaafompggfaa", sum := "fb5a15a5e7ce5da8ecdc7d43b787601728a17b0b4542136baf4ebe24202cbd3c", func := "loop.example/g00901/laws.FnExactNameOk", spec := "fnExactNameOk", apart := false, narrowed := true }
def FnExactNameOkUptoSaid : Prop := fnExactNameOkUptoRow.holds Try.pinned (OpenSpec.upto fnExactNameOkSpec)

/-- 'laws.FnExactGetLeb', WHERE WHAT IT READS IS OF BULK AT MOST 1048576: true; the input reads as it did. -/
def fnExactGetLebUptoRow : OpenClaim := { program := "ytocgaafompggfaa", sum := "fb5a15a5e7ce5da8ecdc7d43b787601728a17b0b4542136baf4ebe24202cbd3c", func := "loop.example/g00901/laws.FnExactGetLeb", spec := "fnExactGetLeb", apart := false, narrowed := true }
def FnExactGetLebUptoSaid : Prop := fnExactGetLebUptoRow.holds Try.pinned (OpenSpec.upto fnExactGetLebSpec)

end Rows
end Go.Proofs.Ytocgaafompggfaa
