/-
  DERIVED. GIVEN WITH THE SEED: THE CARDS: each row of YtklhkdihokgpeaaGreatDoorRows.lean that lists a variable, with what it lists TIED to the program's text (the seventh form; the later family's looks); each row that meets fmt, with fmt's text TOLD by the authors' own Lean function (tested against real Go, not proved from fmt's source: count such statements apart). THE CARD IS WHAT COUNTS. Prove the row's statement (the work); the ties are given (YtklhkdihokgpeaaGreatDoorTie.lean); close each card by the builder's one call (the guide's Derived/Test/ToyasCard.lean, 'card_holds'). Laid BY PROGRAM, IN A SANDBOX (cutbox-door.mjs). By AI agents, Wed Nov 11 2026. No macro, syntax, notation, axiom, sorry.
-/
import Derived.Test.YtklhkdihokgpeaaGreatDoorRows
import GoSem.ClaimSeven
namespace Go.Proofs.YtklhkdihokgpeaaGreatDoor
namespace Rows

/-- THE TIED CARD OF 'laws.FnExactFaceOk'. -/
def fnExactFaceOkCard : Claim7 := { stood := { row := fnExactFaceOkRow, standIns := [], harness := (true, "c3a52fdca965b438515014d55de3cea34fe7932ef80d72681e0df4683d625a4d"), looks := true }, kinds := [], alts := [], laidByText := true, laidKinds := [.data, .data, .data, .data, .sentinel, .sentinel, .pinned], laidTests := true, laidLooks := .later }
def FnExactFaceOkCardSaid : Prop := Claim7.holds Tryz.pinned (.plain (OpenSpec.ofChange fnExactFaceOkSpec)) fnExactFaceOkCard

/-- THE TIED CARD OF 'laws.FnExactWorldOk'. -/
def fnExactWorldOkCard : Claim7 := { stood := { row := fnExactWorldOkRow, standIns := [], harness := (true, "c3a52fdca965b438515014d55de3cea34fe7932ef80d72681e0df4683d625a4d"), looks := true }, kinds := [], alts := [], laidByText := true, laidKinds := [.data, .data, .data, .data, .sentinel, .sentinel, .pinned], laidTests := true, laidLooks := .later }
def FnExactWorldOkCardSaid : Prop := Claim7.holds Tryz.pinned (.plain (OpenSpec.ofChange fnExactWorldOkSpec)) fnExactWorldOkCard

/-- THE TIED CARD OF 'laws.FnExactFuncIn'. -/
def fnExactFuncInCard : Claim7 := { stood := { row := fnExactFuncInRow, standIns := [], harness := (true, "c3a52fdca965b438515014d55de3cea34fe7932ef80d72681e0df4683d625a4d"), looks := true }, kinds := [], alts := [], laidByText := true, laidKinds := [.data, .data, .data, .data, .sentinel, .sentinel, .pinned], laidTests := true, laidLooks := .later }
def FnExactFuncInCardSaid : Prop := Claim7.holds Tryz.pinned (.plain (OpenSpec.ofChange fnExactFuncInSpec)) fnExactFuncInCard

/-- THE TIED CARD OF 'laws.FnExactWorldText'. -/
def fnExactWorldTextCard : Claim7 := { stood := { row := fnExactWorldTextRow, standIns := [], harness := (true, "c3a52fdca965b438515014d55de3cea34fe7932ef80d72681e0df4683d625a4d"), looks := true }, kinds := [], alts := [], laidByText := true, laidKinds := [.data, .data, .data, .data, .sentinel, .sentinel, .pinned], laidTests := true, laidLooks := .later }
def FnExactWorldTextCardSaid : Prop := Claim7.holds Tryz.pinned (.plain (OpenSpec.ofChange fnExactWorldTextSpec)) fnExactWorldTextCard

/-- THE SECOND FORM's CARD OF 'laws.FnExactFaceOk'. -/
def fnExactFaceOkUptoCard : Claim7 := { stood := { row := fnExactFaceOkUptoRow, standIns := [], harness := (true, "c3a52fdca965b438515014d55de3cea34fe7932ef80d72681e0df4683d625a4d"), looks := true }, kinds := [], alts := [], laidByText := true, laidKinds := [.data, .data, .data, .data, .sentinel, .sentinel, .pinned], laidTests := true, laidLooks := .later }
def FnExactFaceOkUptoCardSaid : Prop := Claim7.holds Tryz.pinned (.plain (OpenSpec.upto fnExactFaceOkSpec)) fnExactFaceOkUptoCard

/-- THE SECOND FORM's CARD OF 'laws.FnExactWorldOk'. -/
def fnExactWorldOkUptoCard : Claim7 := { stood := { row := fnExactWorldOkUptoRow, standIns := [], harness := (true, "c3a52fdca965b438515014d55de3cea34fe7932ef80d72681e0df4683d625a4d"), looks := true }, kinds := [], alts := [], laidByText := true, laidKinds := [.data, .data, .data, .data, .sentinel, .sentinel, .pinned], laidTests := true, laidLooks := .later }
def FnExactWorldOkUptoCardSaid : Prop := Claim7.holds Tryz.pinned (.plain (OpenSpec.upto fnExactWorldOkSpec)) fnExactWorldOkUptoCard

/-- THE SECOND FORM's CARD OF 'laws.FnExactFuncIn'. -/
def fnExactFuncInUptoCard : Claim7 := { stood := { row := fnExactFuncInUptoRow, standIns := [], harness := (true, "c3a52fdca965b438515014d55de3cea34fe7932ef80d72681e0df4683d625a4d"), looks := true }, kinds := [], alts := [], laidByText := true, laidKinds := [.data, .data, .data, .data, .sentinel, .sentinel, .pinned], laidTests := true, laidLooks := .later }
def FnExactFuncInUptoCardSaid : Prop := Claim7.holds Tryz.pinned (.plain (OpenSpec.upto fnExactFuncInSpec)) fnExactFuncInUptoCard

/-- THE SECOND FORM's CARD OF 'laws.FnExactWorldText'. -/
def fnExactWorldTextUptoCard : Claim7 := { stood := { row := fnExactWorldTextUptoRow, standIns := [], harness := (true, "c3a52fdca965b438515014d55de3cea34fe7932ef80d72681e0df4683d625a4d"), looks := true }, kinds := [], alts := [], laidByText := true, laidKinds := [.data, .data, .data, .data, .sentinel, .sentinel, .pinned], laidTests := true, laidLooks := .later }
def FnExactWorldTextUptoCardSaid : Prop := Claim7.holds Tryz.pinned (.plain (OpenSpec.upto fnExactWorldTextSpec)) fnExactWorldTextUptoCard
end Rows
end Go.Proofs.YtklhkdihokgpeaaGreatDoor
