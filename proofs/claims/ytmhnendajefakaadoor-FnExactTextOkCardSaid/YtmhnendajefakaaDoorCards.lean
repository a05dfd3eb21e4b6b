/-
  DERIVED. GIVEN WITH THE SEED: THE CARDS: each row of YtmhnendajefakaaDoorRows.lean that lists a variable, with what it lists TIED to the program's text (the seventh form; the later family's looks); each row that meets fmt, with fmt's text TOLD by the authors' own Lean function (tested against real Go, not proved from fmt's source: count such statements apart). THE CARD IS WHAT COUNTS. Prove the row's statement (the work); the ties are given (YtmhnendajefakaaDoorTie.lean); close each card by the builder's one call (the guide's Derived/Test/ToyasCard.lean, 'card_holds'). Laid BY PROGRAM, IN A SANDBOX (cutbox-door.mjs). By AI agents, Wed Nov 11 2026. No macro, syntax, notation, axiom, sorry.
-/
import Derived.Test.YtmhnendajefakaaDoorRows
import GoSem.ClaimSeven
namespace Go.Proofs.YtmhnendajefakaaDoor
namespace Rows

/-- THE TIED CARD OF 'laws.FnExactTextOk'. -/
def fnExactTextOkCard : Claim7 := { stood := { row := fnExactTextOkRow, standIns := [], harness := (true, "aef206b8b6a443382e27b6f32f32eb24fb2610926a1b8a008b9fd9a91ce68eac"), looks := false }, kinds := [], alts := [], laidByText := true, laidKinds := [.data, .pinned], laidTests := true, laidLooks := .later }
def FnExactTextOkCardSaid : Prop := Claim7.holds Tryd.pinned (.plain (OpenSpec.ofChange fnExactTextOkSpec)) fnExactTextOkCard

/-- THE SECOND FORM's CARD OF 'laws.FnExactTextOk'. -/
def fnExactTextOkUptoCard : Claim7 := { stood := { row := fnExactTextOkUptoRow, standIns := [], harness := (true, "aef206b8b6a443382e27b6f32f32eb24fb2610926a1b8a008b9fd9a91ce68eac"), looks := false }, kinds := [], alts := [], laidByText := true, laidKinds := [.data, .pinned], laidTests := true, laidLooks := .later }
def FnExactTextOkUptoCardSaid : Prop := Claim7.holds Tryd.pinned (.plain (OpenSpec.upto fnExactTextOkSpec)) fnExactTextOkUptoCard
end Rows
end Go.Proofs.YtmhnendajefakaaDoor
