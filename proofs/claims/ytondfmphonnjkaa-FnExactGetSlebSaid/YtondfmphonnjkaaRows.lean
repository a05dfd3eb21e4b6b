/-
  No cell of these rows narrows 'for every input' (looked for: loops, veiled, ifaces, maps, wideKeys, modest, calm, conditions, laid).
  DERIVED. THE GIVEN ROWS OF THIS SEAT. 10 by the template 'for every input the law returns true; each argument reads behind the call as it read before'; 0 by the template 'total and deterministic' (their statements: YtondfmphonnjkaaTotals.lean).
  GIVEN WITH THE SEED: the statements are not yours to turn. If you find one false, say at which input.
  Laid BY PROGRAM, IN A SANDBOX (cutbox-rows.mjs): the forced cells as the released guide's own fill.sh prints them over the translation 0869090227877dc3… (all of the seat's roots in one cut). By AI agents, Wed Nov 11 2026. No macro, syntax, notation, axiom, sorry.
-/
import Derived.Test.YtondfmphonnjkaaChecked
import GoSem.Claim
import GoSem.ClaimJoined
import GoSem.ClaimMapViews
import Derived.JoinedTies
import Derived.KernelRfl
namespace Go.Proofs.Ytondfmphonnjkaa
/- THE CELL 'sum', in the pinned program and in every row, IS THE sha256 OF THE DUMP (.gsa) THAT YtondfmphonnjkaaProg.lean LOADS. Nothing in Lean hashes anything: it is a label: what it is worth is what the hold of that sum in a sandbox is worth. -/
noncomputable def Try.pinned : Pinned := { name := "ytondfmphonnjkaa", sum := "0869090227877dc3a7da1c8748e1ae4829d2fad6184760704813967136166a4b", checked := Try.checked }
namespace Rows
def none {H : Type} : Left H := { results := [], args := [] }

/-- 'laws.FnExactReserved': WHATEVER THE INPUT: true; the input reads as it did. -/
def fnExactReservedSpec : ChangeSpec := { name := "fnExactReserved", fn := fun _ => fun
  | [d] => { results := [.lit (.bool true)], args := [d] }
  | _ => none }
def fnExactReservedRow : OpenClaim := { program := "ytondfmphonnjkaa", sum := "0869090227877dc3a7da1c8748e1ae4829d2fad6184760704813967136166a4b", func := "loop.example/g00901/laws.FnExactReserved", spec := "fnExactReserved", apart := false }
def FnExactReservedSaid : Prop := fnExactReservedRow.holds Try.pinned (OpenSpec.ofChange fnExactReservedSpec)

/-- ITS FALSE NEIGHBOUR: 'it returns false'. Refute it at one input. -/
def fnExactReservedWrong : ChangeSpec := { name := "fnExactReserved", fn := fun _ => fun
  | [d] => { results := [.lit (.bool false)], args := [d] }
  | _ => none }
def FnExactReservedWrongFalsely : Prop := fnExactReservedRow.holds Try.pinned (OpenSpec.ofChange fnExactReservedWrong)

/-- 'laws.FnExactNumRange': WHATEVER THE INPUT: true; the input reads as it did. -/
def fnExactNumRangeSpec : ChangeSpec := { name := "fnExactNumRange", fn := fun _ => fun
  | [d] => { results := [.lit (.bool true)], args := [d] }
  | _ => none }
def fnExactNumRangeRow : OpenClaim := { program := "ytondfmphonnjkaa", sum := "0869090227877dc3a7da1c8748e1ae4829d2fad6184760704813967136166a4b", func := "loop.example/g00901/laws.FnExactNumRange", spec := "fnExactNumRange", apart := false }
def FnExactNumRangeSaid : Prop := fnExactNumRangeRow.holds Try.pinned (OpenSpec.ofChange fnExactNumRangeSpec)

/-- ITS FALSE NEIGHBOUR: 'it returns false'. Refute it at one input. -/
def fnExactNumRangeWrong : ChangeSpec := { name := "fnExactNumRange", fn := fun _ => fun
  | [d] => { results := [.lit (.bool false)], args := [d] }
  | _ => none }
def FnExactNumRangeWrongFalsely : Prop := fnExactNumRangeRow.holds Try.pinned (OpenSpec.ofChange fnExactNumRangeWrong)

/-- 'laws.FnExactReasonText': WHATEVER THE INPUT: true; the input reads as it did. -/
def fnExactReasonTextSpec : ChangeSpec := { name := "fnExactReasonText", fn := fun _ => fun
  | [d] => { results := [.lit (.bool true)], args := [d] }
  | _ => none }
def fnExactReasonTextRow : OpenClaim := { program := "ytondfmphonnjkaa", sum := "0869090227877dc3a7da1c8748e1ae4829d2fad6184760704813967136166a4b", func := "loop.example/g00901/laws.FnExactReasonText", spec := "fnExactReasonText", apart := false }
def FnExactReasonTextSaid : Prop := fnExactReasonTextRow.holds Try.pinned (OpenSpec.ofChange fnExactReasonTextSpec)

/-- ITS FALSE NEIGHBOUR: 'it returns false'. Refute it at one input. -/
def fnExactReasonTextWrong : ChangeSpec := { name := "fnExactReasonText", fn := fun _ => fun
  | [d] => { results := [.lit (.bool false)], args := [d] }
  | _ => none }
def FnExactReasonTextWrongFalsely : Prop := fnExactReasonTextRow.holds Try.pinned (OpenSpec.ofChange fnExactReasonTextWrong)

/-- 'laws.FnExactGetHex': WHATEVER THE INPUT: true; the input reads as it did. -/
def fnExactGetHexSpec : ChangeSpec := { name := "fnExactGetHex", fn := fun _ => fun
  | [d] => { results := [.lit (.bool true)], args := [d] }
  | _ => none }
def fnExactGetHexRow : OpenClaim := { program := "ytondfmphonnjkaa", sum := "0869090227877dc3a7da1c8748e1ae4829d2fad6184760704813967136166a4b", func := "loop.example/g00901/laws.FnExactGetHex", spec := "fnExactGetHex", inPlace := ["internal/bytealg.IndexByteString"], apart := false }
def FnExactGetHexSaid : Prop := fnExactGetHexRow.holds Try.pinned (OpenSpec.ofChange fnExactGetHexSpec)

/-- ITS FALSE NEIGHBOUR: 'it returns false'. Refute it at one input. -/
def fnExactGetHexWrong : ChangeSpec := { name := "fnExactGetHex", fn := fun _ => fun
  | [d] => { results := [.lit (.bool false)], args := [d] }
  | _ => none }
def FnExactGetHexWrongFalsely : Prop := fnExactGetHexRow.holds Try.pinned (OpenSpec.ofChange fnExactGetHexWrong)

/-- 'laws.FnExactGetSleb': WHATEVER THE INPUT: true; the input reads as it did. -/
def fnExactGetSlebSpec : ChangeSpec := { name := "fnExactGetSleb", fn := fun _ => fun
  | [d] => { results := [.lit (.bool true)], args := [d] }
  | _ => none }
def fnExactGetSlebRow : OpenClaim := { program := "ytondfmphonnjkaa", sum := "0869090227877dc3a7da1c8748e1ae4829d2fad6184760704813967136166a4b", func := "loop.example/g00901/laws.FnExactGetSleb", spec := "fnExactGetSleb", apart := false }
def FnExactGetSlebSaid : Prop := fnExactGetSlebRow.holds Try.pinned (OpenSpec.ofChange fnExactGetSlebSpec)

/-- ITS FALSE NEIGHBOUR: 'it returns false'. Refute it at one input. -/
def fnExactGetSlebWrong : ChangeSpec := { name := "fnExactGetSleb", fn := fun _ => fun
  | [d] => { results := [.lit (.bool false)], args := [d] }
  | _ => none }
def FnExactGetSlebWrongFalsely : Prop := fnExactGetSlebRow.holds Try.pinned (OpenSpec.ofChange fnExactGetSlebWrong)

/-- 'laws.FnExactMeet': WHATEVER THE INPUT: true; the input reads as it did. -/
def fnExactMeetSpec : ChangeSpec := { name := "fnExactMeet", fn := fun _ => fun
  | [d1, d2] => { results := [.lit (.bool true)], args := [d1, d2] }
  | _ => none }
def fnExactMeetRow : OpenClaim := { program := "ytondfmphonnjkaa", sum := "0869090227877dc3a7da1c8748e1ae4829d2fad6184760704813967136166a4b", func := "loop.example/g00901/laws.FnExactMeet", spec := "fnExactMeet", apart := false }
def FnExactMeetSaid : Prop := fnExactMeetRow.holds Try.pinned (OpenSpec.ofChange fnExactMeetSpec)

/-- ITS FALSE NEIGHBOUR: 'it returns false'. Refute it at one input. -/
def fnExactMeetWrong : ChangeSpec := { name := "fnExactMeet", fn := fun _ => fun
  | [d1, d2] => { results := [.lit (.bool false)], args := [d1, d2] }
  | _ => none }
def FnExactMeetWrongFalsely : Prop := fnExactMeetRow.holds Try.pinned (OpenSpec.ofChange fnExactMeetWrong)

/-- 'laws.FnExactGetBytes': WHATEVER THE INPUT: true; the input reads as it did. -/
def fnExactGetBytesSpec : ChangeSpec := { name := "fnExactGetBytes", fn := fun _ => fun
  | [d] => { results := [.lit (.bool true)], args := [d] }
  | _ => none }
def fnExactGetBytesRow : OpenClaim := { program := "ytondfmphonnjkaa", sum := "0869090227877dc3a7da1c8748e1ae4829d2fad6184760704813967136166a4b", func := "loop.example/g00901/laws.FnExactGetBytes", spec := "fnExactGetBytes", apart := false }
def FnExactGetBytesSaid : Prop := fnExactGetBytesRow.holds Try.pinned (OpenSpec.ofChange fnExactGetBytesSpec)

/-- ITS FALSE NEIGHBOUR: 'it returns false'. Refute it at one input. -/
def fnExactGetBytesWrong : ChangeSpec := { name := "fnExactGetBytes", fn := fun _ => fun
  | [d] => { results := [.lit (.bool false)], args := [d] }
  | _ => none }
def FnExactGetBytesWrongFalsely : Prop := fnExactGetBytesRow.holds Try.pinned (OpenSpec.ofChange fnExactGetBytesWrong)

/-- 'laws.FnExactSameTokens': WHATEVER THE INPUT: true; the input reads as it did. -/
def fnExactSameTokensSpec : ChangeSpec := { name := "fnExactSameTokens", fn := fun _ => fun
  | [d1, d2] => { results := [.lit (.bool true)], args := [d1, d2] }
  | _ => none }
def fnExactSameTokensRow : OpenClaim := { program := "ytondfmphonnjkaa", sum := "0869090227877dc3a7da1c8748e1ae4829d2fad6184760704813967136166a4b", func := "loop.example/g00901/laws.FnExactSameTokens", spec := "fnExactSameTokens", unfollowed := true, recurses := true, apart := false }
def FnExactSameTokensSaid : Prop := fnExactSameTokensRow.holds Try.pinned (OpenSpec.ofChange fnExactSameTokensSpec)

/-- ITS FALSE NEIGHBOUR: 'it returns false'. Refute it at one input. -/
def fnExactSameTokensWrong : ChangeSpec := { name := "fnExactSameTokens", fn := fun _ => fun
  | [d1, d2] => { results := [.lit (.bool false)], args := [d1, d2] }
  | _ => none }
def FnExactSameTokensWrongFalsely : Prop := fnExactSameTokensRow.holds Try.pinned (OpenSpec.ofChange fnExactSameTokensWrong)

/-- 'laws.FnExactTokensText': WHATEVER THE INPUT: true; the input reads as it did. -/
def fnExactTokensTextSpec : ChangeSpec := { name := "fnExactTokensText", fn := fun _ => fun
  | [d] => { results := [.lit (.bool true)], args := [d] }
  | _ => none }
def fnExactTokensTextRow : OpenClaim := { program := "ytondfmphonnjkaa", sum := "0869090227877dc3a7da1c8748e1ae4829d2fad6184760704813967136166a4b", func := "loop.example/g00901/laws.FnExactTokensText", spec := "fnExactTokensText", inPlace := ["internal/abi.NoEscape", "internal/bytealg.MakeNoZero"], apart := false }
def FnExactTokensTextSaid : Prop := fnExactTokensTextRow.holds Try.pinned (OpenSpec.ofChange fnExactTokensTextSpec)

/-- ITS FALSE NEIGHBOUR: 'it returns false'. Refute it at one input. -/
def fnExactTokensTextWrong : ChangeSpec := { name := "fnExactTokensText", fn := fun _ => fun
  | [d] => { results := [.lit (.bool false)], args := [d] }
  | _ => none }
def FnExactTokensTextWrongFalsely : Prop := fnExactTokensTextRow.holds Try.pinned (OpenSpec.ofChange fnExactTokensTextWrong)

/-- 'laws.FnExactTokens': WHATEVER THE INPUT: true; the input reads as it did. -/
def fnExactTokensSpec : ChangeSpec := { name := "fnExactTokens", fn := fun _ => fun
  | [d] => { results := [.lit (.bool true)], args := [d] }
  | _ => none }
def fnExactTokensRow : OpenClaim := { program := "ytondfmphonnjkaa", sum := "0869090227877dc3a7da1c8748e1ae4829d2fad6184760704813967136166a4b", func := "loop.example/g00901/laws.FnExactTokens", spec := "fnExactTokens", inPlace := ["internal/bytealg.IndexByteString"], apart := false }
def FnExactTokensSaid : Prop := fnExactTokensRow.holds Try.pinned (OpenSpec.ofChange fnExactTokensSpec)

/-- ITS FALSE NEIGHBOUR: 'it returns false'. Refute it at one input. -/
def fnExactTokensWrong : ChangeSpec := { name := "fnExactTokens", fn := fun _ => fun
  | [d] => { results := [.lit (.bool false)], args := [d] }
  | _ => none }
def FnExactTokensWrongFalsely : Prop := fnExactTokensRow.holds Try.pinned (OpenSpec.ofChange fnExactTokensWrong)

/- THE SECOND FORM. 'bulk': how many values and letters a reading holds, each counted each time it is reached (what is shared counts as often as it is met; a slice's spare places count too). A statement '..UptoSaid' is the law's where the arguments, and the package variables that the reading takes, are together of bulk at most 1048576: NARROWER than '..Said'. Prove '..Said' where nothing that the law and all that it calls make is longer than what came in: it says more and counts as full. Else prove '..UptoSaid'. A law counts once. -/
mutual
def uptoBulk {H : Type} : DataW H → Nat
  | .lit (.string bytes) => bytes.length + 1
  | .lit _ => 1
  | .nil => 1
  | .ptr d => uptoBulk d + 1
  | .slice elems spare => uptoBulkAll elems + uptoBulkAll spare + 1
  | .agg parts => uptoBulkAll parts + 1
  | .iface _ d => uptoBulk d + 1
  | .map entries => uptoBulkEntries entries + 1
  | .held _ => 1
def uptoBulkAll {H : Type} : List (DataW H) → Nat
  | [] => 0
  | d :: r => uptoBulk d + uptoBulkAll r
def uptoBulkEntries {H : Type} : List (Lit × DataW H) → Nat
  | [] => 0
  | x :: r => uptoBulkEntry x + uptoBulkEntries r
def uptoBulkEntry {H : Type} : Lit × DataW H → Nat
  | (.string bytes, d) => bytes.length + uptoBulk d + 1
  | (_, d) => uptoBulk d + 1
 end
def uptoSmall : (H : Type) → List (DataW H) → Bool := fun _ ds => decide (uptoBulkAll ds ≤ 1048576)
def OpenSpec.upto (s : _root_.Go.ChangeSpec) : _root_.Go.OpenSpec := { _root_.Go.OpenSpec.ofChange s with cond := some uptoSmall }

/-- 'laws.FnExactReserved', WHERE WHAT IT READS IS OF BULK AT MOST 1048576: true; the input reads as it did. -/
def fnExactReservedUptoRow : OpenClaim := { program := "ytondfmphonnjkaa", sum := "0869090227877dc3a7da1c8748e1ae4829d2fad6184760704813967136166a4b", func := "loop.example/g00901/laws.FnExactReserved", spec := "fnExactReserved", apart := false, narrowed := true }
def FnExactReservedUptoSaid : Prop := fnExactReservedUptoRow.holds Try.pinned (OpenSpec.upto fnExactReservedSpec)

/-- 'laws.FnExactNumRange', WHERE WHAT IT READS IS OF BULK AT MOST 1048576: true; the input reads as it did. -/
def fnExactNumRangeUptoRow : OpenClaim := { program := "ytondfmphonnjkaa", sum := "0869090227877dc3a7da1c8748e1ae4829d2fad6184760704813967136166a4b", func := "loop.example/g00901/laws.FnExactNumRange", spec := "fnExactNumRange", apart := false, narrowed := true }
def FnExactNumRangeUptoSaid : Prop := fnExactNumRangeUptoRow.holds Try.pinned (OpenSpec.upto fnExactNumRangeSpec)

/-- 'laws.FnExactReasonText', WHERE WHAT IT READS IS OF BULK AT MOST 1048576: true; the input reads as it did. -/
def fnExactReasonTextUptoRow : OpenClaim := { program := "ytondfmphonnjkaa", sum := "0869090227877dc3a7da1c8748e1ae4829d2fad6184760704813967136166a4b", func := "loop.example/g00901/laws.FnExactReasonText", spec := "fnExactReasonText", apart := false, narrowed := true }
def FnExactReasonTextUptoSaid : Prop := fnExactReasonTextUptoRow.holds Try.pinned (OpenSpec.upto fnExactReasonTextSpec)

/-- 'laws.FnExactGetHex', WHERE WHAT IT READS IS OF BULK AT MOST 1048576: true; the input reads as it did. -/
def fnExactGetHexUptoRow : OpenClaim := { program := "ytondfmphonnjkaa", sum := "0869090227877dc3a7da1c8748e1ae4829d2fad6184760704813967136166a4b", func := "loop.example/g00901/laws.FnExactGetHex", spec := "fnExactGetHex", inPlace := ["internal/bytealg.IndexByteString"], apart := false, narrowed := true }
def FnExactGetHexUptoSaid : Prop := fnExactGetHexUptoRow.holds Try.pinned (OpenSpec.upto fnExactGetHexSpec)

/-- 'laws.FnExactGetSleb', WHERE WHAT IT READS IS OF BULK AT MOST 1048576: true; the input reads as it did. -/
def fnExactGetSlebUptoRow : OpenClaim := { program := "ytondfmphonnjkaa", sum := "0869090227877dc3a7da1c8748e1ae4829d2fad6184760704813967136166a4b", func := "loop.example/g00901/laws.FnExactGetSleb", spec := "fnExactGetSleb", apart := false, narrowed := true }
def FnExactGetSlebUptoSaid : Prop := fnExactGetSlebUptoRow.holds Try.pinned (OpenSpec.upto fnExactGetSlebSpec)

/-- 'laws.FnExactMeet', WHERE WHAT IT READS IS OF BULK AT MOST 1048576: true; the input reads as it did. -/
def fnExactMeetUptoRow : OpenClaim := { program := "ytondfmphonnjkaa", sum := "0869090227877dc3a7da1c8748e1ae4829d2fad6184760704813967136166a4b", func := "loop.example/g00901/laws.FnExactMeet", spec := "fnExactMeet", apart := false, narrowed := true }
def FnExactMeetUptoSaid : Prop := fnExactMeetUptoRow.holds Try.pinned (OpenSpec.upto fnExactMeetSpec)

/-- 'laws.FnExactGetBytes', WHERE WHAT IT READS IS OF BULK AT MOST 1048576: true; the input reads as it did. -/
def fnExactGetBytesUptoRow : OpenClaim := { program := "ytondfmphonnjkaa", sum := "0869090227877dc3a7da1c8748e1ae4829d2fad6184760704813967136166a4b", func := "loop.example/g00901/laws.FnExactGetBytes", spec := "fnExactGetBytes", apart := false, narrowed := true }
def FnExactGetBytesUptoSaid : Prop := fnExactGetBytesUptoRow.holds Try.pinned (OpenSpec.upto fnExactGetBytesSpec)

/-- 'laws.FnExactSameTokens', WHERE WHAT IT READS IS OF BULK AT MOST 1048576: true; the input reads as it did. -/
def fnExactSameTokensUptoRow : OpenClaim := { program := "ytondfmphonnjkaa", sum := "0869090227877dc3a7da1c8748e1ae4829d2fad6184760704813967136166a4b", func := "loop.example/g00901/laws.FnExactSameTokens", spec := "fnExactSameTokens", unfollowed := true, recurses := true, apart := false, narrowed := true }
def FnExactSameTokensUptoSaid : Prop := fnExactSameTokensUptoRow.holds Try.pinned (OpenSpec.upto fnExactSameTokensSpec)

/-- 'laws.FnExactTokensText', WHERE WHAT IT READS IS OF BULK AT MOST 1048576: true; the input reads as it did. -/
def fnExactTokensTextUptoRow : OpenClaim := { program := "ytondfmphonnjkaa", sum := "0869090227877dc3a7da1c8748e1ae4829d2fad6184760704813967136166a4b", func := "loop.example/g00901/laws.FnExactTokensText", spec := "fnExactTokensText", inPlace := ["internal/abi.NoEscape", "internal/bytealg.MakeNoZero"], apart := false, narrowed := true }
def FnExactTokensTextUptoSaid : Prop := fnExactTokensTextUptoRow.holds Try.pinned (OpenSpec.upto fnExactTokensTextSpec)

/-- 'laws.FnExactTokens', WHERE WHAT IT READS IS OF BULK AT MOST 1048576: true; the input reads as it did. -/
def fnExactTokensUptoRow : OpenClaim := { program := "ytondfmphonnjkaa", sum := "0869090227877dc3a7da1c8748e1ae4829d2fad6184760704813967136166a4b", func := "loop.example/g00901/laws.FnExactTokens", spec := "fnExactTokens", inPlace := ["internal/bytealg.IndexByteString"], apart := false, narrowed := true }
def FnExactTokensUptoSaid : Prop := fnExactTokensUptoRow.holds Try.pinned (OpenSpec.upto fnExactTokensSpec)

end Rows
end Go.Proofs.Ytondfmphonnjkaa
