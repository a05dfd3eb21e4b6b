/-
  NARROWER THAN 'FOR EVERY INPUT', by the rows' own cells (each row's printed sentence says how): FnExactSameType: loops · FnExactSameFunc: loops · FnExactSameFace: loops · FnExactSameWorld: loops.
  DERIVED. THE GIVEN ROWS OF THIS SEAT. 11 by the template 'for every input the law returns true; each argument reads behind the call as it read before'; 0 by the template 'total and deterministic' (their statements: YtokppmhihghapaaTotals.lean).
  GIVEN WITH THE SEED: the statements are not yours to turn. If you find one false, say at which input.
  Laid BY PROGRAM, IN A SANDBOX (cutbox-rows.mjs): the forced cells as the released guide's own fill.sh prints them over the translation a3721210f32a1c6d… (all of the seat's roots in one cut). By AI agents, Wed Nov 11 2026. No macro, syntax, notation, axiom, sorry.
-/
import Derived.Test.YtokppmhihghapaaChecked
import GoSem.Claim
import GoSem.ClaimJoined
import GoSem.ClaimMapViews
import Derived.JoinedTies
import Derived.KernelRfl
namespace Go.Proofs.Ytokppmhihghapaa
/- THE CELL 'sum', in the pinned program and in every row, IS THE sha256 OF THE DUMP (.gsa) THAT YtokppmhihghapaaProg.lean LOADS. Nothing in Lean hashes anything: it is a label: what it is worth is what the hold of that sum in a sandbox is worth. -/
noncomputable def Try.pinned : Pinned := { name := "ytokppmhihghapaa", sum := "a3721210f32a1c6deaf226478ee4e94feed5432a805f7613f6ffc761c1506341", checked := Try.checked }
namespace Rows
def none {H : Type} : Left H := { results := [], args := [] }

/-- 'laws.FnExactReserved': WHATEVER THE INPUT: true; the input reads as it did. -/
def fnExactReservedSpec : ChangeSpec := { name := "fnExactReserved", fn := fun _ => fun
  | [d] => { results := [.lit (.bool true)], args := [d] }
  | _ => none }
def fnExactReservedRow : OpenClaim := { program := "ytokppmhihghapaa", sum := "a3721210f32a1c6deaf226478ee4e94feed5432a805f7613f6ffc761c1506341", func := "loop.example/g00901/laws.FnExactReserved", spec := "fnExactReserved", apart := false }
def FnExactReservedSaid : Prop := fnExactReservedRow.holds Try.pinned (OpenSpec.ofChange fnExactReservedSpec)

/-- ITS FALSE NEIGHBOUR: 'it returns false'. Refute it at one input. -/
def fnExactReservedWrong : ChangeSpec := { name := "fnExactReserved", fn := fun _ => fun
  | [d] => { results := [.lit (.bool false)], args := [d] }
  | _ => none }
def FnExactReservedWrongFalsely : Prop := fnExactReservedRow.holds Try.pinned (OpenSpec.ofChange fnExactReservedWrong)

/-- 'laws.FnExactReasonText': WHATEVER THE INPUT: true; the input reads as it did. -/
def fnExactReasonTextSpec : ChangeSpec := { name := "fnExactReasonText", fn := fun _ => fun
  | [d] => { results := [.lit (.bool true)], args := [d] }
  | _ => none }
def fnExactReasonTextRow : OpenClaim := { program := "ytokppmhihghapaa", sum := "a3721210f32a1c6deaf226478ee4e94feed5432a805f7613f6ffc761c1506341", func := "loop.example/g00901/laws.FnExactReasonText", spec := "fnExactReasonText", apart := false }
def FnExactReasonTextSaid : Prop := fnExactReasonTextRow.holds Try.pinned (OpenSpec.ofChange fnExactReasonTextSpec)

/-- ITS FALSE NEIGHBOUR: 'it returns false'. Refute it at one input. -/
def fnExactReasonTextWrong : ChangeSpec := { name := "fnExactReasonText", fn := fun _ => fun
  | [d] => { results := [.lit (.bool false)], args := [d] }
  | _ => none }
def FnExactReasonTextWrongFalsely : Prop := fnExactReasonTextRow.holds Try.pinned (OpenSpec.ofChange fnExactReasonTextWrong)

/-- 'laws.FnExactGetHex': WHATEVER THE INPUT: true; the input reads as it did. -/
def fnExactGetHexSpec : ChangeSpec := { name := "fnExactGetHex", fn := fun _ => fun
  | [d] => { results := [.lit (.bool true)], args := [d] }
  | _ => none }
def fnExactGetHexRow : OpenClaim := { program := "ytokppmhihghapaa", sum := "a3721210f32a1c6deaf226478ee4e94feed5432a805f7613f6ffc761c1506341", func := "loop.example/g00901/laws.FnExactGetHex", spec := "fnExactGetHex", inPlace := ["internal/bytealg.IndexByteString"], apart := false }
def FnExactGetHexSaid : Prop := fnExactGetHexRow.holds Try.pinned (OpenSpec.ofChange fnExactGetHexSpec)

/-- ITS FALSE NEIGHBOUR: 'it returns false'. Refute it at one input. -/
def fnExactGetHexWrong : ChangeSpec := { name := "fnExactGetHex", fn := fun _ => fun
  | [d] => { results := [.lit (.bool false)], args := [d] }
  | _ => none }
def FnExactGetHexWrongFalsely : Prop := fnExactGetHexRow.holds Try.pinned (OpenSpec.ofChange fnExactGetHexWrong)

/-- 'laws.FnExactMeet': WHATEVER THE INPUT: true; the input reads as it did. -/
def fnExactMeetSpec : ChangeSpec := { name := "fnExactMeet", fn := fun _ => fun
  | [d1, d2] => { results := [.lit (.bool true)], args := [d1, d2] }
  | _ => none }
def fnExactMeetRow : OpenClaim := { program := "ytokppmhihghapaa", sum := "a3721210f32a1c6deaf226478ee4e94feed5432a805f7613f6ffc761c1506341", func := "loop.example/g00901/laws.FnExactMeet", spec := "fnExactMeet", apart := false }
def FnExactMeetSaid : Prop := fnExactMeetRow.holds Try.pinned (OpenSpec.ofChange fnExactMeetSpec)

/-- ITS FALSE NEIGHBOUR: 'it returns false'. Refute it at one input. -/
def fnExactMeetWrong : ChangeSpec := { name := "fnExactMeet", fn := fun _ => fun
  | [d1, d2] => { results := [.lit (.bool false)], args := [d1, d2] }
  | _ => none }
def FnExactMeetWrongFalsely : Prop := fnExactMeetRow.holds Try.pinned (OpenSpec.ofChange fnExactMeetWrong)

/-- 'laws.FnExactSameTokens': WHATEVER THE INPUT: true; the input reads as it did. -/
def fnExactSameTokensSpec : ChangeSpec := { name := "fnExactSameTokens", fn := fun _ => fun
  | [d1, d2] => { results := [.lit (.bool true)], args := [d1, d2] }
  | _ => none }
def fnExactSameTokensRow : OpenClaim := { program := "ytokppmhihghapaa", sum := "a3721210f32a1c6deaf226478ee4e94feed5432a805f7613f6ffc761c1506341", func := "loop.example/g00901/laws.FnExactSameTokens", spec := "fnExactSameTokens", unfollowed := true, recurses := true, apart := false }
def FnExactSameTokensSaid : Prop := fnExactSameTokensRow.holds Try.pinned (OpenSpec.ofChange fnExactSameTokensSpec)

/-- ITS FALSE NEIGHBOUR: 'it returns false'. Refute it at one input. -/
def fnExactSameTokensWrong : ChangeSpec := { name := "fnExactSameTokens", fn := fun _ => fun
  | [d1, d2] => { results := [.lit (.bool false)], args := [d1, d2] }
  | _ => none }
def FnExactSameTokensWrongFalsely : Prop := fnExactSameTokensRow.holds Try.pinned (OpenSpec.ofChange fnExactSameTokensWrong)

/-- 'laws.FnExactTokensText': WHATEVER THE INPUT: true; the input reads as it did. -/
def fnExactTokensTextSpec : ChangeSpec := { name := "fnExactTokensText", fn := fun _ => fun
  | [d] => { results := [.lit (.bool true)], args := [d] }
  | _ => none }
def fnExactTokensTextRow : OpenClaim := { program := "ytokppmhihghapaa", sum := "a3721210f32a1c6deaf226478ee4e94feed5432a805f7613f6ffc761c1506341", func := "loop.example/g00901/laws.FnExactTokensText", spec := "fnExactTokensText", inPlace := ["internal/abi.NoEscape", "internal/bytealg.MakeNoZero"], apart := false }
def FnExactTokensTextSaid : Prop := fnExactTokensTextRow.holds Try.pinned (OpenSpec.ofChange fnExactTokensTextSpec)

/-- ITS FALSE NEIGHBOUR: 'it returns false'. Refute it at one input. -/
def fnExactTokensTextWrong : ChangeSpec := { name := "fnExactTokensText", fn := fun _ => fun
  | [d] => { results := [.lit (.bool false)], args := [d] }
  | _ => none }
def FnExactTokensTextWrongFalsely : Prop := fnExactTokensTextRow.holds Try.pinned (OpenSpec.ofChange fnExactTokensTextWrong)

/-- 'laws.FnExactTokens': WHATEVER THE INPUT: true; the input reads as it did. -/
def fnExactTokensSpec : ChangeSpec := { name := "fnExactTokens", fn := fun _ => fun
  | [d] => { results := [.lit (.bool true)], args := [d] }
  | _ => none }
def fnExactTokensRow : OpenClaim := { program := "ytokppmhihghapaa", sum := "a3721210f32a1c6deaf226478ee4e94feed5432a805f7613f6ffc761c1506341", func := "loop.example/g00901/laws.FnExactTokens", spec := "fnExactTokens", inPlace := ["internal/bytealg.IndexByteString"], apart := false }
def FnExactTokensSaid : Prop := fnExactTokensRow.holds Try.pinned (OpenSpec.ofChange fnExactTokensSpec)

/-- ITS FALSE NEIGHBOUR: 'it returns false'. Refute it at one input. -/
def fnExactTokensWrong : ChangeSpec := { name := "fnExactTokens", fn := fun _ => fun
  | [d] => { results := [.lit (.bool false)], args := [d] }
  | _ => none }
def FnExactTokensWrongFalsely : Prop := fnExactTokensRow.holds Try.pinned (OpenSpec.ofChange fnExactTokensWrong)

/-- 'laws.FnExactSameType': WHATEVER THE INPUT: true; the input reads as it did. -/
def fnExactSameTypeSpec : ChangeSpec := { name := "fnExactSameType", fn := fun _ => fun
  | [d1, d2] => { results := [.lit (.bool true)], args := [d1, d2] }
  | _ => none }
def fnExactSameTypeRow : OpenClaim := { program := "ytokppmhihghapaa", sum := "a3721210f32a1c6deaf226478ee4e94feed5432a805f7613f6ffc761c1506341", func := "loop.example/g00901/laws.FnExactSameType", spec := "fnExactSameType", unfollowed := true, recurses := true, loops := true, apart := false }
def FnExactSameTypeSaid : Prop := fnExactSameTypeRow.holds Try.pinned (OpenSpec.ofChange fnExactSameTypeSpec)

/-- ITS FALSE NEIGHBOUR: 'it returns false'. Refute it at one input. -/
def fnExactSameTypeWrong : ChangeSpec := { name := "fnExactSameType", fn := fun _ => fun
  | [d1, d2] => { results := [.lit (.bool false)], args := [d1, d2] }
  | _ => none }
def FnExactSameTypeWrongFalsely : Prop := fnExactSameTypeRow.holds Try.pinned (OpenSpec.ofChange fnExactSameTypeWrong)

/-- 'laws.FnExactSameFunc': WHATEVER THE INPUT: true; the input reads as it did. -/
def fnExactSameFuncSpec : ChangeSpec := { name := "fnExactSameFunc", fn := fun _ => fun
  | [d1, d2] => { results := [.lit (.bool true)], args := [d1, d2] }
  | _ => none }
def fnExactSameFuncRow : OpenClaim := { program := "ytokppmhihghapaa", sum := "a3721210f32a1c6deaf226478ee4e94feed5432a805f7613f6ffc761c1506341", func := "loop.example/g00901/laws.FnExactSameFunc", spec := "fnExactSameFunc", unfollowed := true, recurses := true, loops := true, apart := false }
def FnExactSameFuncSaid : Prop := fnExactSameFuncRow.holds Try.pinned (OpenSpec.ofChange fnExactSameFuncSpec)

/-- ITS FALSE NEIGHBOUR: 'it returns false'. Refute it at one input. -/
def fnExactSameFuncWrong : ChangeSpec := { name := "fnExactSameFunc", fn := fun _ => fun
  | [d1, d2] => { results := [.lit (.bool false)], args := [d1, d2] }
  | _ => none }
def FnExactSameFuncWrongFalsely : Prop := fnExactSameFuncRow.holds Try.pinned (OpenSpec.ofChange fnExactSameFuncWrong)

/-- 'laws.FnExactSameFace': WHATEVER THE INPUT: true; the input reads as it did. -/
def fnExactSameFaceSpec : ChangeSpec := { name := "fnExactSameFace", fn := fun _ => fun
  | [d1, d2] => { results := [.lit (.bool true)], args := [d1, d2] }
  | _ => none }
def fnExactSameFaceRow : OpenClaim := { program := "ytokppmhihghapaa", sum := "a3721210f32a1c6deaf226478ee4e94feed5432a805f7613f6ffc761c1506341", func := "loop.example/g00901/laws.FnExactSameFace", spec := "fnExactSameFace", unfollowed := true, recurses := true, loops := true, apart := false }
def FnExactSameFaceSaid : Prop := fnExactSameFaceRow.holds Try.pinned (OpenSpec.ofChange fnExactSameFaceSpec)

/-- ITS FALSE NEIGHBOUR: 'it returns false'. Refute it at one input. -/
def fnExactSameFaceWrong : ChangeSpec := { name := "fnExactSameFace", fn := fun _ => fun
  | [d1, d2] => { results := [.lit (.bool false)], args := [d1, d2] }
  | _ => none }
def FnExactSameFaceWrongFalsely : Prop := fnExactSameFaceRow.holds Try.pinned (OpenSpec.ofChange fnExactSameFaceWrong)

/-- 'laws.FnExactSameWorld': WHATEVER THE INPUT: true; the input reads as it did. -/
def fnExactSameWorldSpec : ChangeSpec := { name := "fnExactSameWorld", fn := fun _ => fun
  | [d1, d2] => { results := [.lit (.bool true)], args := [d1, d2] }
  | _ => none }
def fnExactSameWorldRow : OpenClaim := { program := "ytokppmhihghapaa", sum := "a3721210f32a1c6deaf226478ee4e94feed5432a805f7613f6ffc761c1506341", func := "loop.example/g00901/laws.FnExactSameWorld", spec := "fnExactSameWorld", unfollowed := true, recurses := true, loops := true, apart := false }
def FnExactSameWorldSaid : Prop := fnExactSameWorldRow.holds Try.pinned (OpenSpec.ofChange fnExactSameWorldSpec)

/-- ITS FALSE NEIGHBOUR: 'it returns false'. Refute it at one input. -/
def fnExactSameWorldWrong : ChangeSpec := { name := "fnExactSameWorld", fn := fun _ => fun
  | [d1, d2] => { results := [.lit (.bool false)], args := [d1, d2] }
  | _ => none }
def FnExactSameWorldWrongFalsely : Prop := fnExactSameWorldRow.holds Try.pinned (OpenSpec.ofChange fnExactSameWorldWrong)

/- THE SECOND FORM. 'bulk': how many values and letters a reading holds, each counted each time it is reached (what is shared counts as often as it is met; a slice's spare places count too). A statement '..UptoSaid' is the law's where the arguments, and the package variables that the reading takes, are together of bulk at most 1048576: NARROWER than '..Said'. Prove '..Said' where nothing that the law and all that it calls make is longer than what came in: it says more and counts as full. Else prove '..UptoSaid'. A law counts once. -/
mutual
def uptoBulk {H : Type} : DataW H → Nat
  | .lit (.string bytes) => bytes.length + 1
  | .lit _ => 1
  | .nil => 1
  | .ptr d => uptoBulk d + 1
  | .slice elems spare => uptoBulkAll elems + uptoBulkAll spare + 1
  | .agg parts => uptoBulkAll parts + 1
  | .iface _ d => uptoBulk d + 1
  | .map entries => uptoBulkEntries entries + 1
  | .held _ => 1
def uptoBulkAll {H : Type} : List (DataW H) → Nat
  | [] => 0
  | d :: r => uptoBulk d + uptoBulkAll r
def uptoBulkEntries {H : Type} : List (Lit × DataW H) → Nat
  | [] => 0
  | x :: r => uptoBulkEntry x + uptoBulkEntries r
def uptoBulkEntry {H : Type} : Lit × DataW H → Nat
  | (.string bytes, d) => bytes.length + uptoBulk d + 1
  | (_, d) => uptoBulk d + 1
 end
def uptoSmall : (H : Type) → List (DataW H) → Bool := fun _ ds => decide (uptoBulkAll ds ≤ 1048576)
def OpenSpec.upto (s : _root_.Go.ChangeSpec) : _root_.Go.OpenSpec := { _root_.Go.OpenSpec.ofChange s with cond := some uptoSmall }

/-- 'laws.FnExactReserved', WHERE WHAT IT READS IS OF BULK AT MOST 1048576: true; the input reads as it did. -/
def fnExactReservedUptoRow : OpenClaim := { program := "ytokppmhihghapaa", sum := "a3721210f32a1c6deaf226478ee4e94feed5432a805f7613f6ffc761c1506341", func := "loop.example/g00901/laws.FnExactReserved", spec := "fnExactReserved", apart := false, narrowed := true }
def FnExactReservedUptoSaid : Prop := fnExactReservedUptoRow.holds Try.pinned (OpenSpec.upto fnExactReservedSpec)

/-- 'laws.FnExactReasonText', WHERE WHAT IT READS IS OF BULK AT MOST 1048576: true; the input reads as it did. -/
def fnExactReasonTextUptoRow : OpenClaim := { program := "ytokppmhihghapaa", sum := "a3721210f32a1c6deaf226478ee4e94feed5432a805f7613f6ffc761c1506341", func := "loop.example/g00901/laws.FnExactReasonText", spec := "fnExactReasonText", apart := false, narrowed := true }
def FnExactReasonTextUptoSaid : Prop := fnExactReasonTextUptoRow.holds Try.pinned (OpenSpec.upto fnExactReasonTextSpec)

/-- 'laws.FnExactGetHex', WHERE WHAT IT READS IS OF BULK AT MOST 1048576: true; the input reads as it did. -/
def fnExactGetHexUptoRow : OpenClaim := { program := "ytokppmhihghapaa", sum := "a3721210f32a1c6deaf226478ee4e94feed5432a805f7613f6ffc761c1506341", func := "loop.example/g00901/laws.FnExactGetHex", spec := "fnExactGetHex", inPlace := ["internal/bytealg.IndexByteString"], apart := false, narrowed := true }
def FnExactGetHexUptoSaid : Prop := fnExactGetHexUptoRow.holds Try.pinned (OpenSpec.upto fnExactGetHexSpec)

/-- 'laws.FnExactMeet', WHERE WHAT IT READS IS OF BULK AT MOST 1048576: true; the input reads as it did. -/
def fnExactMeetUptoRow : OpenClaim := { program := "ytokppmhihghapaa", sum := "a3721210f32a1c6deaf226478ee4e94feed5432a805f7613f6ffc761c1506341", func := "loop.example/g00901/laws.FnExactMeet", spec := "fnExactMeet", apart := false, narrowed := true }
def FnExactMeetUptoSaid : Prop := fnExactMeetUptoRow.holds Try.pinned (OpenSpec.upto fnExactMeetSpec)

/-- 'laws.FnExactSameTokens', WHERE WHAT IT READS IS OF BULK AT MOST 1048576: true; the input reads as it did. -/
def fnExactSameTokensUptoRow : OpenClaim := { program := "ytokppmhihghapaa", sum := "a3721210f32a1c6deaf226478ee4e94feed5432a805f7613f6ffc761c1506341", func := "loop.example/g00901/laws.FnExactSameTokens", spec := "fnExactSameTokens", unfollowed := true, recurses := true, apart := false, narrowed := true }
def FnExactSameTokensUptoSaid : Prop := fnExactSameTokensUptoRow.holds Try.pinned (OpenSpec.upto fnExactSameTokensSpec)

/-- 'laws.FnExactTokensText', WHERE WHAT IT READS IS OF BULK AT MOST 1048576: true; the input reads as it did. -/
def fnExactTokensTextUptoRow : OpenClaim := { program := "ytokppmhihghapaa", sum := "a3721210f32a1c6deaf226478ee4e94feed5432a805f7613f6ffc761c1506341", func := "loop.example/g00901/laws.FnExactTokensText", spec := "fnExactTokensText", inPlace := ["internal/abi.NoEscape", "internal/bytealg.MakeNoZero"], apart := false, narrowed := true }
def FnExactTokensTextUptoSaid : Prop := fnExactTokensTextUptoRow.holds Try.pinned (OpenSpec.upto fnExactTokensTextSpec)

/-- 'laws.FnExactTokens', WHERE WHAT IT READS IS OF BULK AT MOST 1048576: true; the input reads as it did. -/
def fnExactTokensUptoRow : OpenClaim := { program := "ytokppmhihghapaa", sum := "a3721210f32a1c6deaf226478ee4e94feed5432a805f7613f6ffc761c1506341", func := "loop.example/g00901/laws.FnExactTokens", spec := "fnExactTokens", inPlace := ["internal/bytealg.IndexByteString"], apart := false, narrowed := true }
def FnExactTokensUptoSaid : Prop := fnExactTokensUptoRow.holds Try.pinned (OpenSpec.upto fnExactTokensSpec)

/-- 'laws.FnExactSameType', WHERE WHAT IT READS IS OF BULK AT MOST 1048576: true; the input reads as it did. -/
def fnExactSameTypeUptoRow : OpenClaim := { program := "ytokppmhihghapaa", sum := "a3721210f32a1c6deaf226478ee4e94feed5432a805f7613f6ffc761c1506341", func := "loop.example/g00901/laws.FnExactSameType", spec := "fnExactSameType", unfollowed := true, recurses := true, loops := true, apart := false, narrowed := true }
def FnExactSameTypeUptoSaid : Prop := fnExactSameTypeUptoRow.holds Try.pinned (OpenSpec.upto fnExactSameTypeSpec)

/-- 'laws.FnExactSameFunc', WHERE WHAT IT READS IS OF BULK AT MOST 1048576: true; the input reads as it did. -/
def fnExactSameFuncUptoRow : OpenClaim := { program := "ytokppmhihghapaa", sum := "a3721210f32a1c6deaf226478ee4e94feed5432a805f7613f6ffc761c1506341", func := "loop.example/g00901/laws.FnExactSameFunc", spec := "fnExactSameFunc", unfollowed := true, recurses := true, loops := true, apart := false, narrowed := true }
def FnExactSameFuncUptoSaid : Prop := fnExactSameFuncUptoRow.holds Try.pinned (OpenSpec.upto fnExactSameFuncSpec)

/-- 'laws.FnExactSameFace', WHERE WHAT IT READS IS OF BULK AT MOST 1048576: true; the input reads as it did. -/
def fnExactSameFaceUptoRow : OpenClaim := { program := "ytokppmhihghapaa", sum := "a3721210f32a1c6deaf226478ee4e94feed5432a805f7613f6ffc761c1506341", func := "loop.example/g00901/laws.FnExactSameFace", spec := "fnExactSameFace", unfollowed := true, recurses := true, loops := true, apart := false, narrowed := true }
def FnExactSameFaceUptoSaid : Prop := fnExactSameFaceUptoRow.holds Try.pinned (OpenSpec.upto fnExactSameFaceSpec)

/-- 'laws.FnExactSameWorld', WHERE WHAT IT READS IS OF BULK AT MOST 1048576: true; the input reads as it did. -/
def fnExactSameWorldUptoRow : OpenClaim := { program := "ytokppmhihghapaa", sum := "a3721210f32a1c6deaf226478ee4e94feed5432a805f7613f6ffc761c1506341", func := "loop.example/g00901/laws.FnExactSameWorld", spec := "fnExactSameWorld", unfollowed := true, recurses := true, loops := true, apart := false, narrowed := true }
def FnExactSameWorldUptoSaid : Prop := fnExactSameWorldUptoRow.holds Try.pinned (OpenSpec.upto fnExactSameWorldSpec)

end Rows
end Go.Proofs.Ytokppmhihghapaa
