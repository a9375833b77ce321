/-
  DERIVED. GIVEN WITH THE SEED: THE CARDS: each row of YtopfcfedcmpamaaDoorRows.lean that lists a variable, with what it lists TIED to the program's text (the seventh form; the later family's looks); each row that meets fmt, with fmt's text TOLD by the authors' own Lean function (tested against real Go, not proved from fmt's source: count such statements apart). THE CARD IS WHAT COUNTS. Prove the row's statement (the work); the ties are given (YtopfcfedcmpamaaDoorTie.lean); close each card by the builder's one call (the guide's Derived/Test/ToyasCard.lean, 'card_holds'). Laid BY PROGRAM, IN A SANDBOX (cutbox-door.mjs). By AI agents, Wed Nov 11 2026. No macro, syntax, notation, axiom, sorry.
-/
import Derived.Test.YtopfcfedcmpamaaDoorRows
import GoSem.ClaimSeven
namespace Go.Proofs.YtopfcfedcmpamaaDoor
namespace Rows

/-- THE TIED CARD OF 'laws.FnExactParseRecord'. -/
def fnExactParseRecordCard : Claim7 := { stood := { row := fnExactParseRecordRow, standIns := [], harness := (true, "812fcf42d93e901d5f6ca0352038defdf2d3de41586972c0c08f02cb520f3c2e"), looks := false }, kinds := [], alts := [], laidByText := true, laidKinds := [.data, .data, .data, .data, .pinned], laidTests := true, laidLooks := .later }
def FnExactParseRecordCardSaid : Prop := Claim7.holds Tryd.pinned (.plain (OpenSpec.ofChange fnExactParseRecordSpec)) fnExactParseRecordCard

/-- THE TIED CARD OF 'laws.FnExactParseSchedule'. -/
def fnExactParseScheduleCard : Claim7 := { stood := { row := fnExactParseScheduleRow, standIns := [], harness := (true, "812fcf42d93e901d5f6ca0352038defdf2d3de41586972c0c08f02cb520f3c2e"), looks := false }, kinds := [], alts := [], laidByText := true, laidKinds := [.data, .data, .data, .data, .pinned], laidTests := true, laidLooks := .later }
def FnExactParseScheduleCardSaid : Prop := Claim7.holds Tryd.pinned (.plain (OpenSpec.ofChange fnExactParseScheduleSpec)) fnExactParseScheduleCard

/-- THE TIED CARD OF 'laws.FnExactScheduleText'. -/
def fnExactScheduleTextCard : Claim7 := { stood := { row := fnExactScheduleTextRow, standIns := [], harness := (true, "812fcf42d93e901d5f6ca0352038defdf2d3de41586972c0c08f02cb520f3c2e"), looks := false }, kinds := [], alts := [], laidByText := true, laidKinds := [.data, .data, .data], laidTests := true, laidLooks := .later }
def FnExactScheduleTextCardSaid : Prop := Claim7.holds Tryd.pinned (.plain (OpenSpec.ofChange fnExactScheduleTextSpec)) fnExactScheduleTextCard

/-- THE SECOND FORM's CARD OF 'laws.FnExactParseRecord'. -/
def fnExactParseRecordUptoCard : Claim7 := { stood := { row := fnExactParseRecordUptoRow, standIns := [], harness := (true, "812fcf42d93e901d5f6ca0352038defdf2d3de41586972c0c08f02cb520f3c2e"), looks := false }, kinds := [], alts := [], laidByText := true, laidKinds := [.data, .data, .data, .data, .pinned], laidTests := true, laidLooks := .later }
def FnExactParseRecordUptoCardSaid : Prop := Claim7.holds Tryd.pinned (.plain (OpenSpec.upto fnExactParseRecordSpec)) fnExactParseRecordUptoCard

/-- THE SECOND FORM's CARD OF 'laws.FnExactParseSchedule'. -/
def fnExactParseScheduleUptoCard : Claim7 := { stood := { row := fnExactParseScheduleUptoRow, standIns := [], harness := (true, "812fcf42d93e901d5f6ca0352038defdf2d3de41586972c0c08f02cb520f3c2e"), looks := false }, kinds := [], alts := [], laidByText := true, laidKinds := [.data, .data, .data, .data, .pinned], laidTests := true, laidLooks := .later }
def FnExactParseScheduleUptoCardSaid : Prop := Claim7.holds Tryd.pinned (.plain (OpenSpec.upto fnExactParseScheduleSpec)) fnExactParseScheduleUptoCard

/-- THE SECOND FORM's CARD OF 'laws.FnExactScheduleText'. -/
def fnExactScheduleTextUptoCard : Claim7 := { stood := { row := fnExactScheduleTextUptoRow, standIns := [], harness := (true, "812fcf42d93e901d5f6ca0352038defdf2d3de41586972c0c08f02cb520f3c2e"), looks := false }, kinds := [], alts := [], laidByText := true, laidKinds := [.data, .data, .data], laidTests := true, laidLooks := .later }
def FnExactScheduleTextUptoCardSaid : Prop := Claim7.holds Tryd.pinned (.plain (OpenSpec.upto fnExactScheduleTextSpec)) fnExactScheduleTextUptoCard
end Rows
end Go.Proofs.YtopfcfedcmpamaaDoor
