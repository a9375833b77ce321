/-
  DERIVED. GIVEN WITH THE SEED: THE CARDS: each row of YtfepopkgnomdgaaDoorRows.lean that lists a variable, with what it lists TIED to the program's text (the seventh form; the later family's looks); each row that meets fmt, with fmt's text TOLD by the authors' own Lean function (tested against real Go, not proved from fmt's source: count such statements apart). THE CARD IS WHAT COUNTS. Prove the row's statement (the work); the ties are given (YtfepopkgnomdgaaDoorTie.lean); close each card by the builder's one call (the guide's Derived/Test/ToyasCard.lean, 'card_holds'). Laid BY PROGRAM, IN A SANDBOX (cutbox-door.mjs). By AI agents, Wed Nov 11 2026. No macro, syntax, notation, axiom, sorry.
-/
import Derived.Test.YtfepopkgnomdgaaDoorRows
import GoSem.ClaimSeven
namespace Go.Proofs.YtfepopkgnomdgaaDoor
namespace Rows

/-- THE TIED CARD OF 'laws.FnExactAreFiles'. -/
def fnExactAreFilesCard : Claim7 := { stood := { row := fnExactAreFilesRow, standIns := [], harness := (true, "f90ecd55110ba8bae9e48fd990fbf1a89d47baac61fd14feafbaccebcbce1f4a"), looks := false }, kinds := [], alts := [], laidByText := true, laidKinds := [.data, .pinned], laidTests := true, laidLooks := .later }
def FnExactAreFilesCardSaid : Prop := Claim7.holds Tryd.pinned (.plain (OpenSpec.ofChange fnExactAreFilesSpec)) fnExactAreFilesCard

/-- THE TIED CARD OF 'laws.FnExactDaysOpen'. -/
def fnExactDaysOpenCard : Claim7 := { stood := { row := fnExactDaysOpenRow, standIns := [], harness := (true, "f90ecd55110ba8bae9e48fd990fbf1a89d47baac61fd14feafbaccebcbce1f4a"), looks := false }, kinds := [], alts := [], laidByText := true, laidKinds := [.data, .pinned], laidTests := true, laidLooks := .later }
def FnExactDaysOpenCardSaid : Prop := Claim7.holds Tryd.pinned (.plain (OpenSpec.ofChange fnExactDaysOpenSpec)) fnExactDaysOpenCard

/-- THE TIED CARD OF 'laws.FnExactCloseFile'. -/
def fnExactCloseFileCard : Claim7 := { stood := { row := fnExactCloseFileRow, standIns := [], harness := (true, "f90ecd55110ba8bae9e48fd990fbf1a89d47baac61fd14feafbaccebcbce1f4a"), looks := false }, kinds := [], alts := [], laidByText := true, laidKinds := [.data, .pinned], laidTests := true, laidLooks := .later }
def FnExactCloseFileCardSaid : Prop := Claim7.holds Tryd.pinned (.plain (OpenSpec.ofChange fnExactCloseFileSpec)) fnExactCloseFileCard

/-- THE TIED CARD OF 'laws.FnExactReopenFile'. -/
def fnExactReopenFileCard : Claim7 := { stood := { row := fnExactReopenFileRow, standIns := [], harness := (true, "f90ecd55110ba8bae9e48fd990fbf1a89d47baac61fd14feafbaccebcbce1f4a"), looks := false }, kinds := [], alts := [], laidByText := true, laidKinds := [.data, .pinned], laidTests := true, laidLooks := .later }
def FnExactReopenFileCardSaid : Prop := Claim7.holds Tryd.pinned (.plain (OpenSpec.ofChange fnExactReopenFileSpec)) fnExactReopenFileCard

/-- THE TIED CARD OF 'laws.FnExactLendFile'. -/
def fnExactLendFileCard : Claim7 := { stood := { row := fnExactLendFileRow, standIns := [], harness := (true, "f90ecd55110ba8bae9e48fd990fbf1a89d47baac61fd14feafbaccebcbce1f4a"), looks := false }, kinds := [], alts := [], laidByText := true, laidKinds := [.data, .pinned], laidTests := true, laidLooks := .later }
def FnExactLendFileCardSaid : Prop := Claim7.holds Tryd.pinned (.plain (OpenSpec.ofChange fnExactLendFileSpec)) fnExactLendFileCard

/-- THE TIED CARD OF 'laws.FnExactAddPages'. -/
def fnExactAddPagesCard : Claim7 := { stood := { row := fnExactAddPagesRow, standIns := [], harness := (true, "f90ecd55110ba8bae9e48fd990fbf1a89d47baac61fd14feafbaccebcbce1f4a"), looks := false }, kinds := [], alts := [], laidByText := true, laidKinds := [.data, .pinned], laidTests := true, laidLooks := .later }
def FnExactAddPagesCardSaid : Prop := Claim7.holds Tryd.pinned (.plain (OpenSpec.ofChange fnExactAddPagesSpec)) fnExactAddPagesCard

/-- THE TIED CARD OF 'laws.FnExactSplitFile'. -/
def fnExactSplitFileCard : Claim7 := { stood := { row := fnExactSplitFileRow, standIns := [], harness := (true, "f90ecd55110ba8bae9e48fd990fbf1a89d47baac61fd14feafbaccebcbce1f4a"), looks := false }, kinds := [], alts := [], laidByText := true, laidKinds := [.data, .pinned], laidTests := true, laidLooks := .later }
def FnExactSplitFileCardSaid : Prop := Claim7.holds Tryd.pinned (.plain (OpenSpec.ofChange fnExactSplitFileSpec)) fnExactSplitFileCard

/-- THE TIED CARD OF 'laws.FnExactClosedSince'. -/
def fnExactClosedSinceCard : Claim7 := { stood := { row := fnExactClosedSinceRow, standIns := [], harness := (true, "f90ecd55110ba8bae9e48fd990fbf1a89d47baac61fd14feafbaccebcbce1f4a"), looks := false }, kinds := [], alts := [], laidByText := true, laidKinds := [.data, .pinned], laidTests := true, laidLooks := .later }
def FnExactClosedSinceCardSaid : Prop := Claim7.holds Tryd.pinned (.plain (OpenSpec.ofChange fnExactClosedSinceSpec)) fnExactClosedSinceCard

/-- THE TIED CARD OF 'laws.FnExactSeriesPages'. -/
def fnExactSeriesPagesCard : Claim7 := { stood := { row := fnExactSeriesPagesRow, standIns := [], harness := (true, "f90ecd55110ba8bae9e48fd990fbf1a89d47baac61fd14feafbaccebcbce1f4a"), looks := false }, kinds := [], alts := [], laidByText := true, laidKinds := [.data, .pinned], laidTests := true, laidLooks := .later }
def FnExactSeriesPagesCardSaid : Prop := Claim7.holds Tryd.pinned (.plain (OpenSpec.ofChange fnExactSeriesPagesSpec)) fnExactSeriesPagesCard

/-- THE SECOND FORM's CARD OF 'laws.FnExactAreFiles'. -/
def fnExactAreFilesUptoCard : Claim7 := { stood := { row := fnExactAreFilesUptoRow, standIns := [], harness := (true, "f90ecd55110ba8bae9e48fd990fbf1a89d47baac61fd14feafbaccebcbce1f4a"), looks := false }, kinds := [], alts := [], laidByText := true, laidKinds := [.data, .pinned], laidTests := true, laidLooks := .later }
def FnExactAreFilesUptoCardSaid : Prop := Claim7.holds Tryd.pinned (.plain (OpenSpec.upto fnExactAreFilesSpec)) fnExactAreFilesUptoCard

/-- THE SECOND FORM's CARD OF 'laws.FnExactDaysOpen'. -/
def fnExactDaysOpenUptoCard : Claim7 := { stood := { row := fnExactDaysOpenUptoRow, standIns := [], harness := (true, "f90ecd55110ba8bae9e48fd990fbf1a89d47baac61fd14feafbaccebcbce1f4a"), looks := false }, kinds := [], alts := [], laidByText := true, laidKinds := [.data, .pinned], laidTests := true, laidLooks := .later }
def FnExactDaysOpenUptoCardSaid : Prop := Claim7.holds Tryd.pinned (.plain (OpenSpec.upto fnExactDaysOpenSpec)) fnExactDaysOpenUptoCard

/-- THE SECOND FORM's CARD OF 'laws.FnExactCloseFile'. -/
def fnExactCloseFileUptoCard : Claim7 := { stood := { row := fnExactCloseFileUptoRow, standIns := [], harness := (true, "f90ecd55110ba8bae9e48fd990fbf1a89d47baac61fd14feafbaccebcbce1f4a"), looks := false }, kinds := [], alts := [], laidByText := true, laidKinds := [.data, .pinned], laidTests := true, laidLooks := .later }
def FnExactCloseFileUptoCardSaid : Prop := Claim7.holds Tryd.pinned (.plain (OpenSpec.upto fnExactCloseFileSpec)) fnExactCloseFileUptoCard

/-- THE SECOND FORM's CARD OF 'laws.FnExactReopenFile'. -/
def fnExactReopenFileUptoCard : Claim7 := { stood := { row := fnExactReopenFileUptoRow, standIns := [], harness := (true, "f90ecd55110ba8bae9e48fd990fbf1a89d47baac61fd14feafbaccebcbce1f4a"), looks := false }, kinds := [], alts := [], laidByText := true, laidKinds := [.data, .pinned], laidTests := true, laidLooks := .later }
def FnExactReopenFileUptoCardSaid : Prop := Claim7.holds Tryd.pinned (.plain (OpenSpec.upto fnExactReopenFileSpec)) fnExactReopenFileUptoCard

/-- THE SECOND FORM's CARD OF 'laws.FnExactLendFile'. -/
def fnExactLendFileUptoCard : Claim7 := { stood := { row := fnExactLendFileUptoRow, standIns := [], harness := (true, "f90ecd55110ba8bae9e48fd990fbf1a89d47baac61fd14feafbaccebcbce1f4a"), looks := false }, kinds := [], alts := [], laidByText := true, laidKinds := [.data, .pinned], laidTests := true, laidLooks := .later }
def FnExactLendFileUptoCardSaid : Prop := Claim7.holds Tryd.pinned (.plain (OpenSpec.upto fnExactLendFileSpec)) fnExactLendFileUptoCard

/-- THE SECOND FORM's CARD OF 'laws.FnExactAddPages'. -/
def fnExactAddPagesUptoCard : Claim7 := { stood := { row := fnExactAddPagesUptoRow, standIns := [], harness := (true, "f90ecd55110ba8bae9e48fd990fbf1a89d47baac61fd14feafbaccebcbce1f4a"), looks := false }, kinds := [], alts := [], laidByText := true, laidKinds := [.data, .pinned], laidTests := true, laidLooks := .later }
def FnExactAddPagesUptoCardSaid : Prop := Claim7.holds Tryd.pinned (.plain (OpenSpec.upto fnExactAddPagesSpec)) fnExactAddPagesUptoCard

/-- THE SECOND FORM's CARD OF 'laws.FnExactSplitFile'. -/
def fnExactSplitFileUptoCard : Claim7 := { stood := { row := fnExactSplitFileUptoRow, standIns := [], harness := (true, "f90ecd55110ba8bae9e48fd990fbf1a89d47baac61fd14feafbaccebcbce1f4a"), looks := false }, kinds := [], alts := [], laidByText := true, laidKinds := [.data, .pinned], laidTests := true, laidLooks := .later }
def FnExactSplitFileUptoCardSaid : Prop := Claim7.holds Tryd.pinned (.plain (OpenSpec.upto fnExactSplitFileSpec)) fnExactSplitFileUptoCard

/-- THE SECOND FORM's CARD OF 'laws.FnExactClosedSince'. -/
def fnExactClosedSinceUptoCard : Claim7 := { stood := { row := fnExactClosedSinceUptoRow, standIns := [], harness := (true, "f90ecd55110ba8bae9e48fd990fbf1a89d47baac61fd14feafbaccebcbce1f4a"), looks := false }, kinds := [], alts := [], laidByText := true, laidKinds := [.data, .pinned], laidTests := true, laidLooks := .later }
def FnExactClosedSinceUptoCardSaid : Prop := Claim7.holds Tryd.pinned (.plain (OpenSpec.upto fnExactClosedSinceSpec)) fnExactClosedSinceUptoCard

/-- THE SECOND FORM's CARD OF 'laws.FnExactSeriesPages'. -/
def fnExactSeriesPagesUptoCard : Claim7 := { stood := { row := fnExactSeriesPagesUptoRow, standIns := [], harness := (true, "f90ecd55110ba8bae9e48fd990fbf1a89d47baac61fd14feafbaccebcbce1f4a"), looks := false }, kinds := [], alts := [], laidByText := true, laidKinds := [.data, .pinned], laidTests := true, laidLooks := .later }
def FnExactSeriesPagesUptoCardSaid : Prop := Claim7.holds Tryd.pinned (.plain (OpenSpec.upto fnExactSeriesPagesSpec)) fnExactSeriesPagesUptoCard
end Rows
end Go.Proofs.YtfepopkgnomdgaaDoor
