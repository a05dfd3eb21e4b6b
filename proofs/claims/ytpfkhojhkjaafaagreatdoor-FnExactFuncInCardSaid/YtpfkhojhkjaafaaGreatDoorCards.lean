/-
  DERIVED. GIVEN WITH THE SEED: THE CARDS: each row of YtpfkhojhkjaafaaGreatDoorRows.lean that lists a variable, with what it lists TIED to the program's text (the seventh form; the later family's looks); each row that meets fmt, with fmt's text TOLD by the authors' own Lean function (tested against real Go, not proved from fmt's source: count such statements apart). THE CARD IS WHAT COUNTS. Prove the row's statement (the work); the ties are given (YtpfkhojhkjaafaaGreatDoorTie.lean); close each card by the builder's one call (the guide's Derived/Test/ToyasCard.lean, 'card_holds'). Laid BY PROGRAM, IN A SANDBOX (cutbox-door.mjs). By AI agents, Wed Nov 11 2026. No macro, syntax, notation, axiom, sorry.
-/
import Derived.Test.YtpfkhojhkjaafaaGreatDoorRows
import GoSem.ClaimSeven
namespace Go.Proofs.YtpfkhojhkjaafaaGreatDoor
namespace Rows

/-- THE TIED CARD OF 'laws.FnExactFuncIn'. -/
def fnExactFuncInCard : Claim7 := { stood := { row := fnExactFuncInRow, standIns := [], harness := (true, "df3fa4362513f6a8fd7dfae4bf210364b7dc3428ffc3eb07ed6324c6c9698e69"), looks := true }, kinds := [], alts := [], laidByText := true, laidKinds := [.data, .data, .data, .data, .sentinel, .sentinel, .pinned], laidTests := true, laidLooks := .later }
def FnExactFuncInCardSaid : Prop := Claim7.holds Tryz.pinned (.plain (OpenSpec.ofChange fnExactFuncInSpec)) fnExactFuncInCard

/-- THE TIED CARD OF 'laws.FnExactWithHandles'. -/
def fnExactWithHandlesCard : Claim7 := { stood := { row := fnExactWithHandlesRow, standIns := [], harness := (true, "df3fa4362513f6a8fd7dfae4bf210364b7dc3428ffc3eb07ed6324c6c9698e69"), looks := true }, kinds := [], alts := [], laidByText := true, laidKinds := [.data, .pinned], laidTests := true, laidLooks := .later }
def FnExactWithHandlesCardSaid : Prop := Claim7.holds Tryz.pinned (.plain (OpenSpec.ofChange fnExactWithHandlesSpec)) fnExactWithHandlesCard

/-- THE TIED CARD OF 'laws.FnExactValueText'. -/
def fnExactValueTextCard : Claim7 := { stood := { row := fnExactValueTextRow, standIns := [], harness := (true, "df3fa4362513f6a8fd7dfae4bf210364b7dc3428ffc3eb07ed6324c6c9698e69"), looks := true }, kinds := [], alts := [], laidByText := true, laidKinds := [.data, .data, .data, .data, .pinned], laidTests := true, laidLooks := .later }
def FnExactValueTextCardSaid : Prop := Claim7.holds Tryz.pinned (.plain (OpenSpec.ofChange fnExactValueTextSpec)) fnExactValueTextCard

/-- THE SECOND FORM's CARD OF 'laws.FnExactFuncIn'. -/
def fnExactFuncInUptoCard : Claim7 := { stood := { row := fnExactFuncInUptoRow, standIns := [], harness := (true, "df3fa4362513f6a8fd7dfae4bf210364b7dc3428ffc3eb07ed6324c6c9698e69"), looks := true }, kinds := [], alts := [], laidByText := true, laidKinds := [.data, .data, .data, .data, .sentinel, .sentinel, .pinned], laidTests := true, laidLooks := .later }
def FnExactFuncInUptoCardSaid : Prop := Claim7.holds Tryz.pinned (.plain (OpenSpec.upto fnExactFuncInSpec)) fnExactFuncInUptoCard

/-- THE SECOND FORM's CARD OF 'laws.FnExactWithHandles'. -/
def fnExactWithHandlesUptoCard : Claim7 := { stood := { row := fnExactWithHandlesUptoRow, standIns := [], harness := (true, "df3fa4362513f6a8fd7dfae4bf210364b7dc3428ffc3eb07ed6324c6c9698e69"), looks := true }, kinds := [], alts := [], laidByText := true, laidKinds := [.data, .pinned], laidTests := true, laidLooks := .later }
def FnExactWithHandlesUptoCardSaid : Prop := Claim7.holds Tryz.pinned (.plain (OpenSpec.upto fnExactWithHandlesSpec)) fnExactWithHandlesUptoCard

/-- THE SECOND FORM's CARD OF 'laws.FnExactValueText'. -/
def fnExactValueTextUptoCard : Claim7 := { stood := { row := fnExactValueTextUptoRow, standIns := [], harness := (true, "df3fa4362513f6a8fd7dfae4bf210364b7dc3428ffc3eb07ed6324c6c9698e69"), looks := true }, kinds := [], alts := [], laidByText := true, laidKinds := [.data, .data, .data, .data, .pinned], laidTests := true, laidLooks := .later }
def FnExactValueTextUptoCardSaid : Prop := Claim7.holds Tryz.pinned (.plain (OpenSpec.upto fnExactValueTextSpec)) fnExactValueTextUptoCard
end Rows
end Go.Proofs.YtpfkhojhkjaafaaGreatDoor
