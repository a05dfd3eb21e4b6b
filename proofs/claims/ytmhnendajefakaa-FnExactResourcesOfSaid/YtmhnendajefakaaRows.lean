/-
  NARROWER THAN 'FOR EVERY INPUT', by the rows' own cells (each row's printed sentence says how): FnExactResourcesOf: loops · FnExactTypeText: loops · FnExactTermOf: loops · FnExactDefaultOf: loops · FnExactFuncText: loops.
  DERIVED. THE GIVEN ROWS OF THIS SEAT. 6 by the template 'for every input the law returns true; each argument reads behind the call as it read before'; 0 by the template 'total and deterministic' (their statements: YtmhnendajefakaaTotals.lean).
  GIVEN WITH THE SEED: the statements are not yours to turn. If you find one false, say at which input.
  Laid BY PROGRAM, IN A SANDBOX (cutbox-rows.mjs): the forced cells as the released guide's own fill.sh prints them over the translation db742aa44ac143f9… (all of the seat's roots in one cut). By AI agents, Wed Nov 11 2026. No macro, syntax, notation, axiom, sorry.
-/
import Derived.Test.YtmhnendajefakaaChecked
import GoSem.Claim
import GoSem.ClaimJoined
import GoSem.ClaimMapViews
import Derived.JoinedTies
import Derived.KernelRfl
namespace Go.Proofs.Ytmhnendajefakaa
/- THE CELL 'sum', in the pinned program and in every row, IS THE sha256 OF THE DUMP (.gsa) THAT YtmhnendajefakaaProg.lean LOADS. Nothing in Lean hashes anything: it is a label: what it is worth is what the hold of that sum in a sandbox is worth. -/
noncomputable def Try.pinned : Pinned := { name := "ytmhnendajefakaa", sum := "db742aa44ac143f9a9ef554391fe98e84256d7f01a94f08dc4b3ef44c65e5be1", checked := Try.checked }
namespace Rows
def none {H : Type} : Left H := { results := [], args := [] }

/-- 'laws.FnExactResourcesOf': WHATEVER THE INPUT: true; the input reads as it did. -/
def fnExactResourcesOfSpec : ChangeSpec := { name := "fnExactResourcesOf", fn := fun _ => fun
  | [d] => { results := [.lit (.bool true)], args := [d] }
  | _ => none }
def fnExactResourcesOfRow : OpenClaim := { program := "ytmhnendajefakaa", sum := "db742aa44ac143f9a9ef554391fe98e84256d7f01a94f08dc4b3ef44c65e5be1", func := "loop.example/g00901/laws.FnExactResourcesOf", spec := "fnExactResourcesOf", unfollowed := true, recurses := true, loops := true, apart := false }
def FnExactResourcesOfSaid : Prop := fnExactResourcesOfRow.holds Try.pinned (OpenSpec.ofChange fnExactResourcesOfSpec)

/-- ITS FALSE NEIGHBOUR: 'it returns false'. Refute it at one input. -/
def fnExactResourcesOfWrong : ChangeSpec := { name := "fnExactResourcesOf", fn := fun _ => fun
  | [d] => { results := [.lit (.bool false)], args := [d] }
  | _ => none }
def FnExactResourcesOfWrongFalsely : Prop := fnExactResourcesOfRow.holds Try.pinned (OpenSpec.ofChange fnExactResourcesOfWrong)

/-- 'laws.FnExactTypeText': WHATEVER THE INPUT: true; the input reads as it did. -/
def fnExactTypeTextSpec : ChangeSpec := { name := "fnExactTypeText", fn := fun _ => fun
  | [d] => { results := [.lit (.bool true)], args := [d] }
  | _ => none }
def fnExactTypeTextRow : OpenClaim := { program := "ytmhnendajefakaa", sum := "db742aa44ac143f9a9ef554391fe98e84256d7f01a94f08dc4b3ef44c65e5be1", func := "loop.example/g00901/laws.FnExactTypeText", spec := "fnExactTypeText", inPlace := ["internal/abi.NoEscape", "internal/bytealg.MakeNoZero"], unfollowed := true, recurses := true, loops := true, apart := false }
def FnExactTypeTextSaid : Prop := fnExactTypeTextRow.holds Try.pinned (OpenSpec.ofChange fnExactTypeTextSpec)

/-- ITS FALSE NEIGHBOUR: 'it returns false'. Refute it at one input. -/
def fnExactTypeTextWrong : ChangeSpec := { name := "fnExactTypeText", fn := fun _ => fun
  | [d] => { results := [.lit (.bool false)], args := [d] }
  | _ => none }
def FnExactTypeTextWrongFalsely : Prop := fnExactTypeTextRow.holds Try.pinned (OpenSpec.ofChange fnExactTypeTextWrong)

/-- 'laws.FnExactTermOf': WHATEVER THE INPUT: true; the input reads as it did. -/
def fnExactTermOfSpec : ChangeSpec := { name := "fnExactTermOf", fn := fun _ => fun
  | [d] => { results := [.lit (.bool true)], args := [d] }
  | _ => none }
def fnExactTermOfRow : OpenClaim := { program := "ytmhnendajefakaa", sum := "db742aa44ac143f9a9ef554391fe98e84256d7f01a94f08dc4b3ef44c65e5be1", func := "loop.example/g00901/laws.FnExactTermOf", spec := "fnExactTermOf", unfollowed := true, recurses := true, loops := true, apart := false }
def FnExactTermOfSaid : Prop := fnExactTermOfRow.holds Try.pinned (OpenSpec.ofChange fnExactTermOfSpec)

/-- ITS FALSE NEIGHBOUR: 'it returns false'. Refute it at one input. -/
def fnExactTermOfWrong : ChangeSpec := { name := "fnExactTermOf", fn := fun _ => fun
  | [d] => { results := [.lit (.bool false)], args := [d] }
  | _ => none }
def FnExactTermOfWrongFalsely : Prop := fnExactTermOfRow.holds Try.pinned (OpenSpec.ofChange fnExactTermOfWrong)

/-- 'laws.FnExactDefaultOf': WHATEVER THE INPUT: true; the input reads as it did. -/
def fnExactDefaultOfSpec : ChangeSpec := { name := "fnExactDefaultOf", fn := fun _ => fun
  | [d] => { results := [.lit (.bool true)], args := [d] }
  | _ => none }
def fnExactDefaultOfRow : OpenClaim := { program := "ytmhnendajefakaa", sum := "db742aa44ac143f9a9ef554391fe98e84256d7f01a94f08dc4b3ef44c65e5be1", func := "loop.example/g00901/laws.FnExactDefaultOf", spec := "fnExactDefaultOf", unfollowed := true, recurses := true, loops := true, apart := false }
def FnExactDefaultOfSaid : Prop := fnExactDefaultOfRow.holds Try.pinned (OpenSpec.ofChange fnExactDefaultOfSpec)

/-- ITS FALSE NEIGHBOUR: 'it returns false'. Refute it at one input. -/
def fnExactDefaultOfWrong : ChangeSpec := { name := "fnExactDefaultOf", fn := fun _ => fun
  | [d] => { results := [.lit (.bool false)], args := [d] }
  | _ => none }
def FnExactDefaultOfWrongFalsely : Prop := fnExactDefaultOfRow.holds Try.pinned (OpenSpec.ofChange fnExactDefaultOfWrong)

/-- 'laws.FnExactFuncText': WHATEVER THE INPUT: true; the input reads as it did. -/
def fnExactFuncTextSpec : ChangeSpec := { name := "fnExactFuncText", fn := fun _ => fun
  | [d] => { results := [.lit (.bool true)], args := [d] }
  | _ => none }
def fnExactFuncTextRow : OpenClaim := { program := "ytmhnendajefakaa", sum := "db742aa44ac143f9a9ef554391fe98e84256d7f01a94f08dc4b3ef44c65e5be1", func := "loop.example/g00901/laws.FnExactFuncText", spec := "fnExactFuncText", inPlace := ["internal/abi.NoEscape", "internal/bytealg.MakeNoZero"], unfollowed := true, recurses := true, loops := true, apart := false }
def FnExactFuncTextSaid : Prop := fnExactFuncTextRow.holds Try.pinned (OpenSpec.ofChange fnExactFuncTextSpec)

/-- ITS FALSE NEIGHBOUR: 'it returns false'. Refute it at one input. -/
def fnExactFuncTextWrong : ChangeSpec := { name := "fnExactFuncText", fn := fun _ => fun
  | [d] => { results := [.lit (.bool false)], args := [d] }
  | _ => none }
def FnExactFuncTextWrongFalsely : Prop := fnExactFuncTextRow.holds Try.pinned (OpenSpec.ofChange fnExactFuncTextWrong)

/-- 'laws.FnExactTokens': WHATEVER THE INPUT: true; the input reads as it did. -/
def fnExactTokensSpec : ChangeSpec := { name := "fnExactTokens", fn := fun _ => fun
  | [d] => { results := [.lit (.bool true)], args := [d] }
  | _ => none }
def fnExactTokensRow : OpenClaim := { program := "ytmhnendajefakaa", sum := "db742aa44ac143f9a9ef554391fe98e84256d7f01a94f08dc4b3ef44c65e5be1", func := "loop.example/g00901/laws.FnExactTokens", spec := "fnExactTokens", inPlace := ["internal/bytealg.IndexByteString"], apart := false }
def FnExactTokensSaid : Prop := fnExactTokensRow.holds Try.pinned (OpenSpec.ofChange fnExactTokensSpec)

/-- ITS FALSE NEIGHBOUR: 'it returns false'. Refute it at one input. -/
def fnExactTokensWrong : ChangeSpec := { name := "fnExactTokens", fn := fun _ => fun
  | [d] => { results := [.lit (.bool false)], args := [d] }
  | _ => none }
def FnExactTokensWrongFalsely : Prop := fnExactTokensRow.holds Try.pinned (OpenSpec.ofChange fnExactTokensWrong)

/- THE SECOND FORM. 'bulk': how many values and letters a reading holds, each counted each time it is reached (what is shared counts as often as it is met; a slice's spare places count too). A statement '..UptoSaid' is the law's where the arguments, and the package variables that the reading takes, are together of bulk at most 1048576: NARROWER than '..Said'. Prove '..Said' where nothing that the law and all that it calls make is longer than what came in: it says more and counts as full. Else prove '..UptoSaid'. A law counts once. -/
mutual
def uptoBulk {H : Type} : DataW H → Nat
  | .lit (.string bytes) => bytes.length + 1
  | .lit _ => 1
  | .nil => 1
  | .ptr d => uptoBulk d + 1
  | .slice elems spare => uptoBulkAll elems + uptoBulkAll spare + 1
  | .agg parts => uptoBulkAll parts + 1
  | .iface _ d => uptoBulk d + 1
  | .map entries => uptoBulkEntries entries + 1
  | .held _ => 1
def uptoBulkAll {H : Type} : List (DataW H) → Nat
  | [] => 0
  | d :: r => uptoBulk d + uptoBulkAll r
def uptoBulkEntries {H : Type} : List (Lit × DataW H) → Nat
  | [] => 0
  | x :: r => uptoBulkEntry x + uptoBulkEntries r
def uptoBulkEntry {H : Type} : Lit × DataW H → Nat
  | (.string bytes, d) => bytes.length + uptoBulk d + 1
  | (_, d) => uptoBulk d + 1
 end
def uptoSmall : (H : Type) → List (DataW H) → Bool := fun _ ds => decide (uptoBulkAll ds ≤ 1048576)
def OpenSpec.upto (s : _root_.Go.ChangeSpec) : _root_.Go.OpenSpec := { _root_.Go.OpenSpec.ofChange s with cond := some uptoSmall }

/-- 'laws.FnExactResourcesOf', WHERE WHAT IT READS IS OF BULK AT MOST 1048576: true; the input reads as it did. -/
def fnExactResourcesOfUptoRow : OpenClaim := { program := "ytmhnendajefakaa", sum := "db742aa44ac143f9a9ef554391fe98e84256d7f01a94f08dc4b3ef44c65e5be1", func := "loop.example/g00901/laws.FnExactResourcesOf", spec := "fnExactResourcesOf", unfollowed := true, recurses := true, loops := true, apart := false, narrowed := true }
def FnExactResourcesOfUptoSaid : Prop := fnExactResourcesOfUptoRow.holds Try.pinned (OpenSpec.upto fnExactResourcesOfSpec)

/-- 'laws.FnExactTypeText', WHERE WHAT IT READS IS OF BULK AT MOST 1048576: true; the input reads as it did. -/
def fnExactTypeTextUptoRow : OpenClaim := { program := "ytmhnendajefakaa", sum := "db742aa44ac143f9a9ef554391fe98e84256d7f01a94f08dc4b3ef44c65e5be1", func := "loop.example/g00901/laws.FnExactTypeText", spec := "fnExactTypeText", inPlace := ["internal/abi.NoEscape", "internal/bytealg.MakeNoZero"], unfollowed := true, recurses := true, loops := true, apart := false, narrowed := true }
def FnExactTypeTextUptoSaid : Prop := fnExactTypeTextUptoRow.holds Try.pinned (OpenSpec.upto fnExactTypeTextSpec)

/-- 'laws.FnExactTermOf', WHERE WHAT IT READS IS OF BULK AT MOST 1048576: true; the input reads as it did. -/
def fnExactTermOfUptoRow : OpenClaim := { program := "ytmhnendajefakaa", sum := "db742aa44ac143f9a9ef554391fe98e84256d7f01a94f08dc4b3ef44c65e5be1", func := "loop.example/g00901/laws.FnExactTermOf", spec := "fnExactTermOf", unfollowed := true, recurses := true, loops := true, apart := false, narrowed := true }
def FnExactTermOfUptoSaid : Prop := fnExactTermOfUptoRow.holds Try.pinned (OpenSpec.upto fnExactTermOfSpec)

/-- 'laws.FnExactDefaultOf', WHERE WHAT IT READS IS OF BULK AT MOST 1048576: true; the input reads as it did. -/
def fnExactDefaultOfUptoRow : OpenClaim := { program := "ytmhnendajefakaa", sum := "db742aa44ac143f9a9ef554391fe98e84256d7f01a94f08dc4b3ef44c65e5be1", func := "loop.example/g00901/laws.FnExactDefaultOf", spec := "fnExactDefaultOf", unfollowed := true, recurses := true, loops := true, apart := false, narrowed := true }
def FnExactDefaultOfUptoSaid : Prop := fnExactDefaultOfUptoRow.holds Try.pinned (OpenSpec.upto fnExactDefaultOfSpec)

/-- 'laws.FnExactFuncText', WHERE WHAT IT READS IS OF BULK AT MOST 1048576: true; the input reads as it did. -/
def fnExactFuncTextUptoRow : OpenClaim := { program := "ytmhnendajefakaa", sum := "db742aa44ac143f9a9ef554391fe98e84256d7f01a94f08dc4b3ef44c65e5be1", func := "loop.example/g00901/laws.FnExactFuncText", spec := "fnExactFuncText", inPlace := ["internal/abi.NoEscape", "internal/bytealg.MakeNoZero"], unfollowed := true, recurses := true, loops := true, apart := false, narrowed := true }
def FnExactFuncTextUptoSaid : Prop := fnExactFuncTextUptoRow.holds Try.pinned (OpenSpec.upto fnExactFuncTextSpec)

/-- 'laws.FnExactTokens', WHERE WHAT IT READS IS OF BULK AT MOST 1048576: true; the input reads as it did. -/
def fnExactTokensUptoRow : OpenClaim := { program := "ytmhnendajefakaa", sum := "db742aa44ac143f9a9ef554391fe98e84256d7f01a94f08dc4b3ef44c65e5be1", func := "loop.example/g00901/laws.FnExactTokens", spec := "fnExactTokens", inPlace := ["internal/bytealg.IndexByteString"], apart := false, narrowed := true }
def FnExactTokensUptoSaid : Prop := fnExactTokensUptoRow.holds Try.pinned (OpenSpec.upto fnExactTokensSpec)

end Rows
end Go.Proofs.Ytmhnendajefakaa
