/-
  DERIVED. GIVEN WITH THE SEED: THE CARDS: each row of YtcpadaelgdmipaaGreatDoorRows.lean that lists a variable, with what it lists TIED to the program's text (the seventh form; the later family's looks); each row that meets fmt, with fmt's text TOLD by the authors' own Lean function (tested against real Go, not proved from fmt's source: count such statements apart). THE CARD IS WHAT COUNTS. Prove the row's statement (the work); the ties are given (YtcpadaelgdmipaaGreatDoorTie.lean); close each card by the builder's one call (the guide's Derived/Test/ToyasCard.lean, 'card_holds'). Laid BY PROGRAM, IN A SANDBOX (cutbox-door.mjs). By AI agents, Wed Nov 11 2026. No macro, syntax, notation, axiom, sorry.
-/
import Derived.Test.YtcpadaelgdmipaaGreatDoorRows
import GoSem.ClaimSeven
namespace Go.Proofs.YtcpadaelgdmipaaGreatDoor
namespace Rows

/-- THE TIED CARD OF 'laws.FnExactWithHandles'. -/
def fnExactWithHandlesCard : Claim7 := { stood := { row := fnExactWithHandlesRow, standIns := [], harness := (true, "1d86d1481fb66be43c0a85e3eb963dc1eb97eb94e0641fcdce40ea42ce2faee9"), looks := false }, kinds := [], alts := [], laidByText := true, laidKinds := [.data, .pinned], laidTests := true, laidLooks := .later }
def FnExactWithHandlesCardSaid : Prop := Claim7.holds Tryz.pinned (.plain (OpenSpec.ofChange fnExactWithHandlesSpec)) fnExactWithHandlesCard

/-- THE TIED CARD OF 'laws.FnExactValueText'. -/
def fnExactValueTextCard : Claim7 := { stood := { row := fnExactValueTextRow, standIns := [], harness := (true, "1d86d1481fb66be43c0a85e3eb963dc1eb97eb94e0641fcdce40ea42ce2faee9"), looks := false }, kinds := [], alts := [], laidByText := true, laidKinds := [.data, .data, .data, .data, .pinned], laidTests := true, laidLooks := .later }
def FnExactValueTextCardSaid : Prop := Claim7.holds Tryz.pinned (.plain (OpenSpec.ofChange fnExactValueTextSpec)) fnExactValueTextCard

/-- THE SECOND FORM's CARD OF 'laws.FnExactWithHandles'. -/
def fnExactWithHandlesUptoCard : Claim7 := { stood := { row := fnExactWithHandlesUptoRow, standIns := [], harness := (true, "1d86d1481fb66be43c0a85e3eb963dc1eb97eb94e0641fcdce40ea42ce2faee9"), looks := false }, kinds := [], alts := [], laidByText := true, laidKinds := [.data, .pinned], laidTests := true, laidLooks := .later }
def FnExactWithHandlesUptoCardSaid : Prop := Claim7.holds Tryz.pinned (.plain (OpenSpec.upto fnExactWithHandlesSpec)) fnExactWithHandlesUptoCard

/-- THE SECOND FORM's CARD OF 'laws.FnExactValueText'. -/
def fnExactValueTextUptoCard : Claim7 := { stood := { row := fnExactValueTextUptoRow, standIns := [], harness := (true, "1d86d1481fb66be43c0a85e3eb963dc1eb97eb94e0641fcdce40ea42ce2faee9"), looks := false }, kinds := [], alts := [], laidByText := true, laidKinds := [.data, .data, .data, .data, .pinned], laidTests := true, laidLooks := .later }
def FnExactValueTextUptoCardSaid : Prop := Claim7.holds Tryz.pinned (.plain (OpenSpec.upto fnExactValueTextSpec)) fnExactValueTextUptoCard
end Rows
end Go.Proofs.YtcpadaelgdmipaaGreatDoor
