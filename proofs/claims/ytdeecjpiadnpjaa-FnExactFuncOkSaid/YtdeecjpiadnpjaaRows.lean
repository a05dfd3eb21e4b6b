/-
  NARROWER THAN 'FOR EVERY INPUT', by the rows' own cells (each row's printed sentence says how): FnExactTypeOk: loops · FnExactHasBorrow: loops · FnExactHasHandles: loops · FnExactDeepOf: loops · FnExactPartsOf: loops · FnExactResourcesOf: loops · FnExactFuncOk: loops · FnExactTypeText: loops · FnExactTermOf: loops · FnExactDefaultOf: loops · FnExactFuncText: loops.
  DERIVED. THE GIVEN ROWS OF THIS SEAT. 11 by the template 'for every input the law returns true; each argument reads behind the call as it read before'; 0 by the template 'total and deterministic' (their statements: YtdeecjpiadnpjaaTotals.lean).
  GIVEN WITH THE SEED: the statements are not yours to turn. If you find one false, say at which input.
  Laid BY PROGRAM, IN A SANDBOX (cutbox-rows.mjs): the forced cells as the released guide's own fill.sh prints them over the translation db25c5ee285e76a5… (all of the seat's roots in one cut). By AI agents, Wed Nov 11 2026. No macro, syntax, notation, axiom, sorry.
-/
import Derived.Test.YtdeecjpiadnpjaaChecked
import GoSem.Claim
import GoSem.ClaimJoined
import GoSem.ClaimMapViews
import Derived.JoinedTies
import Derived.KernelRfl
namespace Go.Proofs.Ytdeecjpiadnpjaa
/- THE CELL 'sum', in the pinned program and in every row, IS THE sha256 OF THE DUMP (.gsa) THAT YtdeecjpiadnpjaaProg.lean LOADS. Nothing in Lean hashes anything: it is a label: what it is worth is what the hold of that sum in a sandbox is worth. -/
noncomputable def Try.pinned : Pinned := { name := "ytdeecjpiadnpjaa", sum := "db25c5ee285e76a57056cf36fd6f03b08ad107ef0f093cedae8386360b05bda0", checked := Try.checked }
namespace Rows
def none {H : Type} : Left H := { results := [], args := [] }

/-- 'laws.FnExactTypeOk': WHATEVER THE INPUT: true; the input reads as it did. -/
def fnExactTypeOkSpec : ChangeSpec := { name := "fnExactTypeOk", fn := fun _ => fun
  | [d] => { results := [.lit (.bool true)], args := [d] }
  | _ => none }
def fnExactTypeOkRow : OpenClaim := { program := "ytdeecjpiadnpjaa", sum := "db25c5ee285e76a57056cf36fd6f03b08ad107ef0f093cedae8386360b05bda0", func := "loop.example/g00901/laws.FnExactTypeOk", spec := "fnExactTypeOk", unfollowed := true, recurses := true, loops := true, apart := false }
def FnExactTypeOkSaid : Prop := fnExactTypeOkRow.holds Try.pinned (OpenSpec.ofChange fnExactTypeOkSpec)

/-- ITS FALSE NEIGHBOUR: 'it returns false'. Refute it at one input. -/
def fnExactTypeOkWrong : ChangeSpec := { name := "fnExactTypeOk", fn := fun _ => fun
  | [d] => { results := [.lit (.bool false)], args := [d] }
  | _ => none }
def FnExactTypeOkWrongFalsely : Prop := fnExactTypeOkRow.holds Try.pinned (OpenSpec.ofChange fnExactTypeOkWrong)

/-- 'laws.FnExactHasBorrow': WHATEVER THE INPUT: true; the input reads as it did. -/
def fnExactHasBorrowSpec : ChangeSpec := { name := "fnExactHasBorrow", fn := fun _ => fun
  | [d] => { results := [.lit (.bool true)], args := [d] }
  | _ => none }
def fnExactHasBorrowRow : OpenClaim := { program := "ytdeecjpiadnpjaa", sum := "db25c5ee285e76a57056cf36fd6f03b08ad107ef0f093cedae8386360b05bda0", func := "loop.example/g00901/laws.FnExactHasBorrow", spec := "fnExactHasBorrow", unfollowed := true, recurses := true, loops := true, apart := false }
def FnExactHasBorrowSaid : Prop := fnExactHasBorrowRow.holds Try.pinned (OpenSpec.ofChange fnExactHasBorrowSpec)

/-- ITS FALSE NEIGHBOUR: 'it returns false'. Refute it at one input. -/
def fnExactHasBorrowWrong : ChangeSpec := { name := "fnExactHasBorrow", fn := fun _ => fun
  | [d] => { results := [.lit (.bool false)], args := [d] }
  | _ => none }
def FnExactHasBorrowWrongFalsely : Prop := fnExactHasBorrowRow.holds Try.pinned (OpenSpec.ofChange fnExactHasBorrowWrong)

/-- 'laws.FnExactHasHandles': WHATEVER THE INPUT: true; the input reads as it did. -/
def fnExactHasHandlesSpec : ChangeSpec := { name := "fnExactHasHandles", fn := fun _ => fun
  | [d] => { results := [.lit (.bool true)], args := [d] }
  | _ => none }
def fnExactHasHandlesRow : OpenClaim := { program := "ytdeecjpiadnpjaa", sum := "db25c5ee285e76a57056cf36fd6f03b08ad107ef0f093cedae8386360b05bda0", func := "loop.example/g00901/laws.FnExactHasHandles", spec := "fnExactHasHandles", unfollowed := true, recurses := true, loops := true, apart := false }
def FnExactHasHandlesSaid : Prop := fnExactHasHandlesRow.holds Try.pinned (OpenSpec.ofChange fnExactHasHandlesSpec)

/-- ITS FALSE NEIGHBOUR: 'it returns false'. Refute it at one input. -/
def fnExactHasHandlesWrong : ChangeSpec := { name := "fnExactHasHandles", fn := fun _ => fun
  | [d] => { results := [.lit (.bool false)], args := [d] }
  | _ => none }
def FnExactHasHandlesWrongFalsely : Prop := fnExactHasHandlesRow.holds Try.pinned (OpenSpec.ofChange fnExactHasHandlesWrong)

/-- 'laws.FnExactDeepOf': WHATEVER THE INPUT: true; the input reads as it did. -/
def fnExactDeepOfSpec : ChangeSpec := { name := "fnExactDeepOf", fn := fun _ => fun
  | [d] => { results := [.lit (.bool true)], args := [d] }
  | _ => none }
def fnExactDeepOfRow : OpenClaim := { program := "ytdeecjpiadnpjaa", sum := "db25c5ee285e76a57056cf36fd6f03b08ad107ef0f093cedae8386360b05bda0", func := "loop.example/g00901/laws.FnExactDeepOf", spec := "fnExactDeepOf", unfollowed := true, recurses := true, loops := true, apart := false }
def FnExactDeepOfSaid : Prop := fnExactDeepOfRow.holds Try.pinned (OpenSpec.ofChange fnExactDeepOfSpec)

/-- ITS FALSE NEIGHBOUR: 'it returns false'. Refute it at one input. -/
def fnExactDeepOfWrong : ChangeSpec := { name := "fnExactDeepOf", fn := fun _ => fun
  | [d] => { results := [.lit (.bool false)], args := [d] }
  | _ => none }
def FnExactDeepOfWrongFalsely : Prop := fnExactDeepOfRow.holds Try.pinned (OpenSpec.ofChange fnExactDeepOfWrong)

/-- 'laws.FnExactPartsOf': WHATEVER THE INPUT: true; the input reads as it did. -/
def fnExactPartsOfSpec : ChangeSpec := { name := "fnExactPartsOf", fn := fun _ => fun
  | [d] => { results := [.lit (.bool true)], args := [d] }
  | _ => none }
def fnExactPartsOfRow : OpenClaim := { program := "ytdeecjpiadnpjaa", sum := "db25c5ee285e76a57056cf36fd6f03b08ad107ef0f093cedae8386360b05bda0", func := "loop.example/g00901/laws.FnExactPartsOf", spec := "fnExactPartsOf", unfollowed := true, recurses := true, loops := true, apart := false }
def FnExactPartsOfSaid : Prop := fnExactPartsOfRow.holds Try.pinned (OpenSpec.ofChange fnExactPartsOfSpec)

/-- ITS FALSE NEIGHBOUR: 'it returns false'. Refute it at one input. -/
def fnExactPartsOfWrong : ChangeSpec := { name := "fnExactPartsOf", fn := fun _ => fun
  | [d] => { results := [.lit (.bool false)], args := [d] }
  | _ => none }
def FnExactPartsOfWrongFalsely : Prop := fnExactPartsOfRow.holds Try.pinned (OpenSpec.ofChange fnExactPartsOfWrong)

/-- 'laws.FnExactResourcesOf': WHATEVER THE INPUT: true; the input reads as it did. -/
def fnExactResourcesOfSpec : ChangeSpec := { name := "fnExactResourcesOf", fn := fun _ => fun
  | [d] => { results := [.lit (.bool true)], args := [d] }
  | _ => none }
def fnExactResourcesOfRow : OpenClaim := { program := "ytdeecjpiadnpjaa", sum := "db25c5ee285e76a57056cf36fd6f03b08ad107ef0f093cedae8386360b05bda0", func := "loop.example/g00901/laws.FnExactResourcesOf", spec := "fnExactResourcesOf", unfollowed := true, recurses := true, loops := true, apart := false }
def FnExactResourcesOfSaid : Prop := fnExactResourcesOfRow.holds Try.pinned (OpenSpec.ofChange fnExactResourcesOfSpec)

/-- ITS FALSE NEIGHBOUR: 'it returns false'. Refute it at one input. -/
def fnExactResourcesOfWrong : ChangeSpec := { name := "fnExactResourcesOf", fn := fun _ => fun
  | [d] => { results := [.lit (.bool false)], args := [d] }
  | _ => none }
def FnExactResourcesOfWrongFalsely : Prop := fnExactResourcesOfRow.holds Try.pinned (OpenSpec.ofChange fnExactResourcesOfWrong)

/-- 'laws.FnExactFuncOk': WHATEVER THE INPUT: true; the input reads as it did. -/
def fnExactFuncOkSpec : ChangeSpec := { name := "fnExactFuncOk", fn := fun _ => fun
  | [d] => { results := [.lit (.bool true)], args := [d] }
  | _ => none }
def fnExactFuncOkRow : OpenClaim := { program := "ytdeecjpiadnpjaa", sum := "db25c5ee285e76a57056cf36fd6f03b08ad107ef0f093cedae8386360b05bda0", func := "loop.example/g00901/laws.FnExactFuncOk", spec := "fnExactFuncOk", unfollowed := true, recurses := true, loops := true, apart := false }
def FnExactFuncOkSaid : Prop := fnExactFuncOkRow.holds Try.pinned (OpenSpec.ofChange fnExactFuncOkSpec)

/-- ITS FALSE NEIGHBOUR: 'it returns false'. Refute it at one input. -/
def fnExactFuncOkWrong : ChangeSpec := { name := "fnExactFuncOk", fn := fun _ => fun
  | [d] => { results := [.lit (.bool false)], args := [d] }
  | _ => none }
def FnExactFuncOkWrongFalsely : Prop := fnExactFuncOkRow.holds Try.pinned (OpenSpec.ofChange fnExactFuncOkWrong)

/-- 'laws.FnExactTypeText': WHATEVER THE INPUT: true; the input reads as it did. -/
def fnExactTypeTextSpec : ChangeSpec := { name := "fnExactTypeText", fn := fun _ => fun
  | [d] => { results := [.lit (.bool true)], args := [d] }
  | _ => none }
def fnExactTypeTextRow : OpenClaim := { program := "ytdeecjpiadnpjaa", sum := "db25c5ee285e76a57056cf36fd6f03b08ad107ef0f093cedae8386360b05bda0", func := "loop.example/g00901/laws.FnExactTypeText", spec := "fnExactTypeText", inPlace := ["internal/abi.NoEscape", "internal/bytealg.MakeNoZero"], unfollowed := true, recurses := true, loops := true, apart := false }
def FnExactTypeTextSaid : Prop := fnExactTypeTextRow.holds Try.pinned (OpenSpec.ofChange fnExactTypeTextSpec)

/-- ITS FALSE NEIGHBOUR: 'it returns false'. Refute it at one input. -/
def fnExactTypeTextWrong : ChangeSpec := { name := "fnExactTypeText", fn := fun _ => fun
  | [d] => { results := [.lit (.bool false)], args := [d] }
  | _ => none }
def FnExactTypeTextWrongFalsely : Prop := fnExactTypeTextRow.holds Try.pinned (OpenSpec.ofChange fnExactTypeTextWrong)

/-- 'laws.FnExactTermOf': WHATEVER THE INPUT: true; the input reads as it did. -/
def fnExactTermOfSpec : ChangeSpec := { name := "fnExactTermOf", fn := fun _ => fun
  | [d] => { results := [.lit (.bool true)], args := [d] }
  | _ => none }
def fnExactTermOfRow : OpenClaim := { program := "ytdeecjpiadnpjaa", sum := "db25c5ee285e76a57056cf36fd6f03b08ad107ef0f093cedae8386360b05bda0", func := "loop.example/g00901/laws.FnExactTermOf", spec := "fnExactTermOf", unfollowed := true, recurses := true, loops := true, apart := false }
def FnExactTermOfSaid : Prop := fnExactTermOfRow.holds Try.pinned (OpenSpec.ofChange fnExactTermOfSpec)

/-- ITS FALSE NEIGHBOUR: 'it returns false'. Refute it at one input. -/
def fnExactTermOfWrong : ChangeSpec := { name := "fnExactTermOf", fn := fun _ => fun
  | [d] => { results := [.lit (.bool false)], args := [d] }
  | _ => none }
def FnExactTermOfWrongFalsely : Prop := fnExactTermOfRow.holds Try.pinned (OpenSpec.ofChange fnExactTermOfWrong)

/-- 'laws.FnExactDefaultOf': WHATEVER THE INPUT: true; the input reads as it did. -/
def fnExactDefaultOfSpec : ChangeSpec := { name := "fnExactDefaultOf", fn := fun _ => fun
  | [d] => { results := [.lit (.bool true)], args := [d] }
  | _ => none }
def fnExactDefaultOfRow : OpenClaim := { program := "ytdeecjpiadnpjaa", sum := "db25c5ee285e76a57056cf36fd6f03b08ad107ef0f093cedae8386360b05bda0", func := "loop.example/g00901/laws.FnExactDefaultOf", spec := "fnExactDefaultOf", unfollowed := true, recurses := true, loops := true, apart := false }
def FnExactDefaultOfSaid : Prop := fnExactDefaultOfRow.holds Try.pinned (OpenSpec.ofChange fnExactDefaultOfSpec)

/-- ITS FALSE NEIGHBOUR: 'it returns false'. Refute it at one input. -/
def fnExactDefaultOfWrong : ChangeSpec := { name := "fnExactDefaultOf", fn := fun _ => fun
  | [d] => { results := [.lit (.bool false)], args := [d] }
  | _ => none }
def FnExactDefaultOfWrongFalsely : Prop := fnExactDefaultOfRow.holds Try.pinned (OpenSpec.ofChange fnExactDefaultOfWrong)

/-- 'laws.FnExactFuncText': WHATEVER THE INPUT: true; the input reads as it did. -/
def fnExactFuncTextSpec : ChangeSpec := { name := "fnExactFuncText", fn := fun _ => fun
  | [d] => { results := [.lit (.bool true)], args := [d] }
  | _ => none }
def fnExactFuncTextRow : OpenClaim := { program := "ytdeecjpiadnpjaa", sum := "db25c5ee285e76a57056cf36fd6f03b08ad107ef0f093cedae8386360b05bda0", func := "loop.example/g00901/laws.FnExactFuncText", spec := "fnExactFuncText", inPlace := ["internal/abi.NoEscape", "internal/bytealg.MakeNoZero"], unfollowed := true, recurses := true, loops := true, apart := false }
def FnExactFuncTextSaid : Prop := fnExactFuncTextRow.holds Try.pinned (OpenSpec.ofChange fnExactFuncTextSpec)

/-- ITS FALSE NEIGHBOUR: 'it returns false'. Refute it at one input. -/
def fnExactFuncTextWrong : ChangeSpec := { name := "fnExactFuncText", fn := fun _ => fun
  | [d] => { results := [.lit (.bool false)], args := [d] }
  | _ => none }
def FnExactFuncTextWrongFalsely : Prop := fnExactFuncTextRow.holds Try.pinned (OpenSpec.ofChange fnExactFuncTextWrong)

/- THE SECOND FORM. 'bulk': how many values and letters a reading holds, each counted each time it is reached (what is shared counts as often as it is met; a slice's spare places count too). A statement '..UptoSaid' is the law's where the arguments, and the package variables that the reading takes, are together of bulk at most 1048576: NARROWER than '..Said'. Prove '..Said' where nothing that the law and all that it calls make is longer than what came in: it says more and counts as full. Else prove '..UptoSaid'. A law counts once. -/
mutual
def uptoBulk {H : Type} : DataW H → Nat
  | .lit (.string bytes) => bytes.length + 1
  | .lit _ => 1
  | .nil => 1
  | .ptr d => uptoBulk d + 1
  | .slice elems spare => uptoBulkAll elems + uptoBulkAll spare + 1
  | .agg parts => uptoBulkAll parts + 1
  | .iface _ d => uptoBulk d + 1
  | .map entries => uptoBulkEntries entries + 1
  | .held _ => 1
def uptoBulkAll {H : Type} : List (DataW H) → Nat
  | [] => 0
  | d :: r => uptoBulk d + uptoBulkAll r
def uptoBulkEntries {H : Type} : List (Lit × DataW H) → Nat
  | [] => 0
  | x :: r => uptoBulkEntry x + uptoBulkEntries r
def uptoBulkEntry {H : Type} : Lit × DataW H → Nat
  | (.string bytes, d) => bytes.length + uptoBulk d + 1
  | (_, d) => uptoBulk d + 1
 end
def uptoSmall : (H : Type) → List (DataW H) → Bool := fun _ ds => decide (uptoBulkAll ds ≤ 1048576)
def OpenSpec.upto (s : _root_.Go.ChangeSpec) : _root_.Go.OpenSpec := { _root_.Go.OpenSpec.ofChange s with cond := some uptoSmall }

/-- 'laws.FnExactTypeOk', WHERE WHAT IT READS IS OF BULK AT MOST 1048576: true; the input reads as it did. -/
def fnExactTypeOkUptoRow : OpenClaim := { program := "ytdeecjpiadnpjaa", sum := "db25c5ee285e76a57056cf36fd6f03b08ad107ef0f093cedae8386360b05bda0", func := "loop.example/g00901/laws.FnExactTypeOk", spec := "fnExactTypeOk", unfollowed := true, recurses := true, loops := true, apart := false, narrowed := true }
def FnExactTypeOkUptoSaid : Prop := fnExactTypeOkUptoRow.holds Try.pinned (OpenSpec.upto fnExactTypeOkSpec)

/-- 'laws.FnExactHasBorrow', WHERE WHAT IT READS IS OF BULK AT MOST 1048576: true; the input reads as it did. -/
def fnExactHasBorrowUptoRow : OpenClaim := { program := "ytdeecjpiadnpjaa", sum := "db25c5ee285e76a57056cf36fd6f03b08ad107ef0f093cedae8386360b05bda0", func := "loop.example/g00901/laws.FnExactHasBorrow", spec := "fnExactHasBorrow", unfollowed := true, recurses := true, loops := true, apart := false, narrowed := true }
def FnExactHasBorrowUptoSaid : Prop := fnExactHasBorrowUptoRow.holds Try.pinned (OpenSpec.upto fnExactHasBorrowSpec)

/-- 'laws.FnExactHasHandles', WHERE WHAT IT READS IS OF BULK AT MOST 1048576: true; the input reads as it did. -/
def fnExactHasHandlesUptoRow : OpenClaim := { program := "ytdeecjpiadnpjaa", sum := "db25c5ee285e76a57056cf36fd6f03b08ad107ef0f093cedae8386360b05bda0", func := "loop.example/g00901/laws.FnExactHasHandles", spec := "fnExactHasHandles", unfollowed := true, recurses := true, loops := true, apart := false, narrowed := true }
def FnExactHasHandlesUptoSaid : Prop := fnExactHasHandlesUptoRow.holds Try.pinned (OpenSpec.upto fnExactHasHandlesSpec)

/-- 'laws.FnExactDeepOf', WHERE WHAT IT READS IS OF BULK AT MOST 1048576: true; the input reads as it did. -/
def fnExactDeepOfUptoRow : OpenClaim := { program := "ytdeecjpiadnpjaa", sum := "db25c5ee285e76a57056cf36fd6f03b08ad107ef0f093cedae8386360b05bda0", func := "loop.example/g00901/laws.FnExactDeepOf", spec := "fnExactDeepOf", unfollowed := true, recurses := true, loops := true, apart := false, narrowed := true }
def FnExactDeepOfUptoSaid : Prop := fnExactDeepOfUptoRow.holds Try.pinned (OpenSpec.upto fnExactDeepOfSpec)

/-- 'laws.FnExactPartsOf', WHERE WHAT IT READS IS OF BULK AT MOST 1048576: true; the input reads as it did. -/
def fnExactPartsOfUptoRow : OpenClaim := { program := "ytdeecjpiadnpjaa", sum := "db25c5ee285e76a57056cf36fd6f03b08ad107ef0f093cedae8386360b05bda0", func := "loop.example/g00901/laws.FnExactPartsOf", spec := "fnExactPartsOf", unfollowed := true, recurses := true, loops := true, apart := false, narrowed := true }
def FnExactPartsOfUptoSaid : Prop := fnExactPartsOfUptoRow.holds Try.pinned (OpenSpec.upto fnExactPartsOfSpec)

/-- 'laws.FnExactResourcesOf', WHERE WHAT IT READS IS OF BULK AT MOST 1048576: true; the input reads as it did. -/
def fnExactResourcesOfUptoRow : OpenClaim := { program := "ytdeecjpiadnpjaa", sum := "db25c5ee285e76a57056cf36fd6f03b08ad107ef0f093cedae8386360b05bda0", func := "loop.example/g00901/laws.FnExactResourcesOf", spec := "fnExactResourcesOf", unfollowed := true, recurses := true, loops := true, apart := false, narrowed := true }
def FnExactResourcesOfUptoSaid : Prop := fnExactResourcesOfUptoRow.holds Try.pinned (OpenSpec.upto fnExactResourcesOfSpec)

/-- 'laws.FnExactFuncOk', WHERE WHAT IT READS IS OF BULK AT MOST 1048576: true; the input reads as it did. -/
def fnExactFuncOkUptoRow : OpenClaim := { program := "ytdeecjpiadnpjaa", sum := "db25c5ee285e76a57056cf36fd6f03b08ad107ef0f093cedae8386360b05bda0", func := "loop.example/g00901/laws.FnExactFuncOk", spec := "fnExactFuncOk", unfollowed := true, recurses := true, loops := true, apart := false, narrowed := true }
def FnExactFuncOkUptoSaid : Prop := fnExactFuncOkUptoRow.holds Try.pinned (OpenSpec.upto fnExactFuncOkSpec)

/-- 'laws.FnExactTypeText', WHERE WHAT IT READS IS OF BULK AT MOST 1048576: true; the input reads as it did. -/
def fnExactTypeTextUptoRow : OpenClaim := { program := "ytdeecjpiadnpjaa", sum := "db25c5ee285e76a57056cf36fd6f03b08ad107ef0f093cedae8386360b05bda0", func := "loop.example/g00901/laws.FnExactTypeText", spec := "fnExactTypeText", inPlace := ["internal/abi.NoEscape", "internal/bytealg.MakeNoZero"], unfollowed := true, recurses := true, loops := true, apart := false, narrowed := true }
def FnExactTypeTextUptoSaid : Prop := fnExactTypeTextUptoRow.holds Try.pinned (OpenSpec.upto fnExactTypeTextSpec)

/-- 'laws.FnExactTermOf', WHERE WHAT IT READS IS OF BULK AT MOST 1048576: true; the input reads as it did. -/
def fnExactTermOfUptoRow : OpenClaim := { program := "ytdeecjpiadnpjaa", sum := "db25c5ee285e76a57056cf36fd6f03b08ad107ef0f093cedae8386360b05bda0", func := "loop.example/g00901/laws.FnExactTermOf", spec := "fnExactTermOf", unfollowed := true, recurses := true, loops := true, apart := false, narrowed := true }
def FnExactTermOfUptoSaid : Prop := fnExactTermOfUptoRow.holds Try.pinned (OpenSpec.upto fnExactTermOfSpec)

/-- 'laws.FnExactDefaultOf', WHERE WHAT IT READS IS OF BULK AT MOST 1048576: true; the input reads as it did. -/
def fnExactDefaultOfUptoRow : OpenClaim := { program := "ytdeecjpiadnpjaa", sum := "db25c5ee285e76a57056cf36fd6f03b08ad107ef0f093cedae8386360b05bda0", func := "loop.example/g00901/laws.FnExactDefaultOf", spec := "fnExactDefaultOf", unfollowed := true, recurses := true, loops := true, apart := false, narrowed := true }
def FnExactDefaultOfUptoSaid : Prop := fnExactDefaultOfUptoRow.holds Try.pinned (OpenSpec.upto fnExactDefaultOfSpec)

/-- 'laws.FnExactFuncText', WHERE WHAT IT READS IS OF BULK AT MOST 1048576: true; the input reads as it did. -/
def fnExactFuncTextUptoRow : OpenClaim := { program := "ytdeecjpiadnpjaa", sum := "db25c5ee285e76a57056cf36fd6f03b08ad107ef0f093cedae8386360b05bda0", func := "loop.example/g00901/laws.FnExactFuncText", spec := "fnExactFuncText", inPlace := ["internal/abi.NoEscape", "internal/bytealg.MakeNoZero"], unfollowed := true, recurses := true, loops := true, apart := false, narrowed := true }
def FnExactFuncTextUptoSaid : Prop := fnExactFuncTextUptoRow.holds Try.pinned (OpenSpec.upto fnExactFuncTextSpec)

end Rows
end Go.Proofs.Ytdeecjpiadnpjaa
