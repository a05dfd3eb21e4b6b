/-
  DERIVED. GIVEN WITH THE SEED: THE CARDS: each row of YtadngjalhekmlaaDoorRows.lean that lists a variable, with what it lists TIED to the program's text (the seventh form; the later family's looks); each row that meets fmt, with fmt's text TOLD by the authors' own Lean function (tested against real Go, not proved from fmt's source: count such statements apart). THE CARD IS WHAT COUNTS. Prove the row's statement (the work); the ties are given (YtadngjalhekmlaaDoorTie.lean); close each card by the builder's one call (the guide's Derived/Test/ToyasCard.lean, 'card_holds'). Laid BY PROGRAM, IN A SANDBOX (cutbox-door.mjs). By AI agents, Wed Nov 11 2026. No macro, syntax, notation, axiom, sorry.
-/
import Derived.Test.YtadngjalhekmlaaDoorRows
import GoSem.ClaimSeven
namespace Go.Proofs.YtadngjalhekmlaaDoor
namespace Rows

/-- THE TIED CARD OF 'laws.FnExactVersionOk'. -/
def fnExactVersionOkCard : Claim7 := { stood := { row := fnExactVersionOkRow, standIns := [], harness := (true, "100c6c3680c1eadbb7cebf7666c88bc24cb6aec6211ceb9ab99c4727a9d11b99"), looks := true }, kinds := [], alts := [], laidByText := true, laidKinds := [.data, .data, .data, .data, .sentinel, .sentinel, .pinned], laidTests := true, laidLooks := .later }
def FnExactVersionOkCardSaid : Prop := Claim7.holds Tryd.pinned (.plain (OpenSpec.ofChange fnExactVersionOkSpec)) fnExactVersionOkCard

/-- THE TIED CARD OF 'laws.FnExactServes'. -/
def fnExactServesCard : Claim7 := { stood := { row := fnExactServesRow, standIns := [], harness := (true, "100c6c3680c1eadbb7cebf7666c88bc24cb6aec6211ceb9ab99c4727a9d11b99"), looks := true }, kinds := [], alts := [], laidByText := true, laidKinds := [.data, .data, .data, .data, .sentinel, .sentinel, .pinned], laidTests := true, laidLooks := .later }
def FnExactServesCardSaid : Prop := Claim7.holds Tryd.pinned (.plain (OpenSpec.ofChange fnExactServesSpec)) fnExactServesCard

/-- THE TIED CARD OF 'laws.FnExactInRange'. -/
def fnExactInRangeCard : Claim7 := { stood := { row := fnExactInRangeRow, standIns := [], harness := (true, "100c6c3680c1eadbb7cebf7666c88bc24cb6aec6211ceb9ab99c4727a9d11b99"), looks := true }, kinds := [], alts := [], laidByText := true, laidKinds := [.data, .data, .data, .data, .sentinel, .sentinel, .pinned], laidTests := true, laidLooks := .later }
def FnExactInRangeCardSaid : Prop := Claim7.holds Tryd.pinned (.plain (OpenSpec.ofChange fnExactInRangeSpec)) fnExactInRangeCard

/-- THE TIED CARD OF 'laws.FnExactCompareVersions'. -/
def fnExactCompareVersionsCard : Claim7 := { stood := { row := fnExactCompareVersionsRow, standIns := [], harness := (true, "100c6c3680c1eadbb7cebf7666c88bc24cb6aec6211ceb9ab99c4727a9d11b99"), looks := true }, kinds := [], alts := [], laidByText := true, laidKinds := [.data, .data, .data, .data, .sentinel, .sentinel, .pinned], laidTests := true, laidLooks := .later }
def FnExactCompareVersionsCardSaid : Prop := Claim7.holds Tryd.pinned (.plain (OpenSpec.ofChange fnExactCompareVersionsSpec)) fnExactCompareVersionsCard

/-- THE TIED CARD OF 'laws.FnExactRangeOf'. -/
def fnExactRangeOfCard : Claim7 := { stood := { row := fnExactRangeOfRow, standIns := [], harness := (true, "100c6c3680c1eadbb7cebf7666c88bc24cb6aec6211ceb9ab99c4727a9d11b99"), looks := true }, kinds := [], alts := [], laidByText := true, laidKinds := [.data, .data, .data, .data, .sentinel, .sentinel, .pinned], laidTests := true, laidLooks := .later }
def FnExactRangeOfCardSaid : Prop := Claim7.holds Tryd.pinned (.plain (OpenSpec.ofChange fnExactRangeOfSpec)) fnExactRangeOfCard

/-- THE TIED CARD OF 'laws.FnExactBestIn'. -/
def fnExactBestInCard : Claim7 := { stood := { row := fnExactBestInRow, standIns := [], harness := (true, "100c6c3680c1eadbb7cebf7666c88bc24cb6aec6211ceb9ab99c4727a9d11b99"), looks := true }, kinds := [], alts := [], laidByText := true, laidKinds := [.data, .data, .data, .data, .sentinel, .sentinel, .pinned], laidTests := true, laidLooks := .later }
def FnExactBestInCardSaid : Prop := Claim7.holds Tryd.pinned (.plain (OpenSpec.ofChange fnExactBestInSpec)) fnExactBestInCard

/-- THE TIED CARD OF 'laws.FnExactPathText'. -/
def fnExactPathTextCard : Claim7 := { stood := { row := fnExactPathTextRow, standIns := [], harness := (true, "100c6c3680c1eadbb7cebf7666c88bc24cb6aec6211ceb9ab99c4727a9d11b99"), looks := true }, kinds := [], alts := [], laidByText := true, laidKinds := [.data, .data, .data, .data, .sentinel, .sentinel, .pinned], laidTests := true, laidLooks := .later }
def FnExactPathTextCardSaid : Prop := Claim7.holds Tryd.pinned (.plain (OpenSpec.ofChange fnExactPathTextSpec)) fnExactPathTextCard

/-- THE SECOND FORM's CARD OF 'laws.FnExactVersionOk'. -/
def fnExactVersionOkUptoCard : Claim7 := { stood := { row := fnExactVersionOkUptoRow, standIns := [], harness := (true, "100c6c3680c1eadbb7cebf7666c88bc24cb6aec6211ceb9ab99c4727a9d11b99"), looks := true }, kinds := [], alts := [], laidByText := true, laidKinds := [.data, .data, .data, .data, .sentinel, .sentinel, .pinned], laidTests := true, laidLooks := .later }
def FnExactVersionOkUptoCardSaid : Prop := Claim7.holds Tryd.pinned (.plain (OpenSpec.upto fnExactVersionOkSpec)) fnExactVersionOkUptoCard

/-- THE SECOND FORM's CARD OF 'laws.FnExactServes'. -/
def fnExactServesUptoCard : Claim7 := { stood := { row := fnExactServesUptoRow, standIns := [], harness := (true, "100c6c3680c1eadbb7cebf7666c88bc24cb6aec6211ceb9ab99c4727a9d11b99"), looks := true }, kinds := [], alts := [], laidByText := true, laidKinds := [.data, .data, .data, .data, .sentinel, .sentinel, .pinned], laidTests := true, laidLooks := .later }
def FnExactServesUptoCardSaid : Prop := Claim7.holds Tryd.pinned (.plain (OpenSpec.upto fnExactServesSpec)) fnExactServesUptoCard

/-- THE SECOND FORM's CARD OF 'laws.FnExactInRange'. -/
def fnExactInRangeUptoCard : Claim7 := { stood := { row := fnExactInRangeUptoRow, standIns := [], harness := (true, "100c6c3680c1eadbb7cebf7666c88bc24cb6aec6211ceb9ab99c4727a9d11b99"), looks := true }, kinds := [], alts := [], laidByText := true, laidKinds := [.data, .data, .data, .data, .sentinel, .sentinel, .pinned], laidTests := true, laidLooks := .later }
def FnExactInRangeUptoCardSaid : Prop := Claim7.holds Tryd.pinned (.plain (OpenSpec.upto fnExactInRangeSpec)) fnExactInRangeUptoCard

/-- THE SECOND FORM's CARD OF 'laws.FnExactCompareVersions'. -/
def fnExactCompareVersionsUptoCard : Claim7 := { stood := { row := fnExactCompareVersionsUptoRow, standIns := [], harness := (true, "100c6c3680c1eadbb7cebf7666c88bc24cb6aec6211ceb9ab99c4727a9d11b99"), looks := true }, kinds := [], alts := [], laidByText := true, laidKinds := [.data, .data, .data, .data, .sentinel, .sentinel, .pinned], laidTests := true, laidLooks := .later }
def FnExactCompareVersionsUptoCardSaid : Prop := Claim7.holds Tryd.pinned (.plain (OpenSpec.upto fnExactCompareVersionsSpec)) fnExactCompareVersionsUptoCard

/-- THE SECOND FORM's CARD OF 'laws.FnExactRangeOf'. -/
def fnExactRangeOfUptoCard : Claim7 := { stood := { row := fnExactRangeOfUptoRow, standIns := [], harness := (true, "100c6c3680c1eadbb7cebf7666c88bc24cb6aec6211ceb9ab99c4727a9d11b99"), looks := true }, kinds := [], alts := [], laidByText := true, laidKinds := [.data, .data, .data, .data, .sentinel, .sentinel, .pinned], laidTests := true, laidLooks := .later }
def FnExactRangeOfUptoCardSaid : Prop := Claim7.holds Tryd.pinned (.plain (OpenSpec.upto fnExactRangeOfSpec)) fnExactRangeOfUptoCard

/-- THE SECOND FORM's CARD OF 'laws.FnExactBestIn'. -/
def fnExactBestInUptoCard : Claim7 := { stood := { row := fnExactBestInUptoRow, standIns := [], harness := (true, "100c6c3680c1eadbb7cebf7666c88bc24cb6aec6211ceb9ab99c4727a9d11b99"), looks := true }, kinds := [], alts := [], laidByText := true, laidKinds := [.data, .data, .data, .data, .sentinel, .sentinel, .pinned], laidTests := true, laidLooks := .later }
def FnExactBestInUptoCardSaid : Prop := Claim7.holds Tryd.pinned (.plain (OpenSpec.upto fnExactBestInSpec)) fnExactBestInUptoCard

/-- THE SECOND FORM's CARD OF 'laws.FnExactPathText'. -/
def fnExactPathTextUptoCard : Claim7 := { stood := { row := fnExactPathTextUptoRow, standIns := [], harness := (true, "100c6c3680c1eadbb7cebf7666c88bc24cb6aec6211ceb9ab99c4727a9d11b99"), looks := true }, kinds := [], alts := [], laidByText := true, laidKinds := [.data, .data, .data, .data, .sentinel, .sentinel, .pinned], laidTests := true, laidLooks := .later }
def FnExactPathTextUptoCardSaid : Prop := Claim7.holds Tryd.pinned (.plain (OpenSpec.upto fnExactPathTextSpec)) fnExactPathTextUptoCard
end Rows
end Go.Proofs.YtadngjalhekmlaaDoor
