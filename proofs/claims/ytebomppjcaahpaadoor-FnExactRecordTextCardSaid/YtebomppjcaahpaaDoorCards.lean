/-
  DERIVED. GIVEN WITH THE SEED: THE CARDS: each row of YtebomppjcaahpaaDoorRows.lean that lists a variable, with what it lists TIED to the program's text (the seventh form; the later family's looks); each row that meets fmt, with fmt's text TOLD by the authors' own Lean function (tested against real Go, not proved from fmt's source: count such statements apart). THE CARD IS WHAT COUNTS. Prove the row's statement (the work); the ties are given (YtebomppjcaahpaaDoorTie.lean); close each card by the builder's one call (the guide's Derived/Test/ToyasCard.lean, 'card_holds'). Laid BY PROGRAM, IN A SANDBOX (cutbox-door.mjs). By AI agents, Wed Nov 11 2026. No macro, syntax, notation, axiom, sorry.
-/
import Derived.Test.YtebomppjcaahpaaDoorRows
import GoSem.ClaimSeven
namespace Go.Proofs.YtebomppjcaahpaaDoor
namespace Rows

/-- THE TIED CARD OF 'laws.FnExactFormatInt'. -/
def fnExactFormatIntCard : Claim7 := { stood := { row := fnExactFormatIntRow, standIns := [], harness := (true, "706c7cbbf40090eb8b1ed9bbaca07d6a8cee5d8fa4081eb550223f4b707f90ee"), looks := true }, kinds := [], alts := [], laidByText := true, laidKinds := [.data, .data, .data], laidTests := true, laidLooks := .later }
def FnExactFormatIntCardSaid : Prop := Claim7.holds Tryd.pinned (.plain (OpenSpec.ofChange fnExactFormatIntSpec)) fnExactFormatIntCard

/-- THE TIED CARD OF 'laws.FnExactSplitString'. -/
def fnExactSplitStringCard : Claim7 := { stood := { row := fnExactSplitStringRow, standIns := [], harness := (true, "706c7cbbf40090eb8b1ed9bbaca07d6a8cee5d8fa4081eb550223f4b707f90ee"), looks := true }, kinds := [], alts := [], laidByText := true, laidKinds := [.data, .pinned], laidTests := true, laidLooks := .later }
def FnExactSplitStringCardSaid : Prop := Claim7.holds Tryd.pinned (.plain (OpenSpec.ofChange fnExactSplitStringSpec)) fnExactSplitStringCard

/-- THE TIED CARD OF 'laws.FnExactRecordText'. -/
def fnExactRecordTextCard : Claim7 := { stood := { row := fnExactRecordTextRow, standIns := [], harness := (true, "706c7cbbf40090eb8b1ed9bbaca07d6a8cee5d8fa4081eb550223f4b707f90ee"), looks := true }, kinds := [], alts := [], laidByText := true, laidKinds := [.data, .data, .data], laidTests := true, laidLooks := .later }
def FnExactRecordTextCardSaid : Prop := Claim7.holds Tryd.pinned (.plain (OpenSpec.ofChange fnExactRecordTextSpec)) fnExactRecordTextCard

/-- THE TIED CARD OF 'laws.FnExactAppendChecksum'. -/
def fnExactAppendChecksumCard : Claim7 := { stood := { row := fnExactAppendChecksumRow, standIns := [], harness := (true, "706c7cbbf40090eb8b1ed9bbaca07d6a8cee5d8fa4081eb550223f4b707f90ee"), looks := true }, kinds := [], alts := [], laidByText := true, laidKinds := [.data, .data, .data], laidTests := true, laidLooks := .later }
def FnExactAppendChecksumCardSaid : Prop := Claim7.holds Tryd.pinned (.plain (OpenSpec.ofChange fnExactAppendChecksumSpec)) fnExactAppendChecksumCard

/-- THE TIED CARD OF 'laws.FnExactVerifyChecksum'. -/
def fnExactVerifyChecksumCard : Claim7 := { stood := { row := fnExactVerifyChecksumRow, standIns := [], harness := (true, "706c7cbbf40090eb8b1ed9bbaca07d6a8cee5d8fa4081eb550223f4b707f90ee"), looks := true }, kinds := [], alts := [], laidByText := true, laidKinds := [.data, .data, .data], laidTests := true, laidLooks := .later }
def FnExactVerifyChecksumCardSaid : Prop := Claim7.holds Tryd.pinned (.plain (OpenSpec.ofChange fnExactVerifyChecksumSpec)) fnExactVerifyChecksumCard

/-- THE TIED CARD OF 'laws.FnExactScheduleText'. -/
def fnExactScheduleTextCard : Claim7 := { stood := { row := fnExactScheduleTextRow, standIns := [], harness := (true, "706c7cbbf40090eb8b1ed9bbaca07d6a8cee5d8fa4081eb550223f4b707f90ee"), looks := true }, kinds := [], alts := [], laidByText := true, laidKinds := [.data, .data, .data], laidTests := true, laidLooks := .later }
def FnExactScheduleTextCardSaid : Prop := Claim7.holds Tryd.pinned (.plain (OpenSpec.ofChange fnExactScheduleTextSpec)) fnExactScheduleTextCard

/-- THE TIED CARD OF 'laws.FnExactParseInt'. -/
def fnExactParseIntCard : Claim7 := { stood := { row := fnExactParseIntRow, standIns := [], harness := (true, "706c7cbbf40090eb8b1ed9bbaca07d6a8cee5d8fa4081eb550223f4b707f90ee"), looks := true }, kinds := [], alts := [], laidByText := true, laidKinds := [.data, .data, .data, .sentinel, .sentinel], laidTests := true, laidLooks := .later }
def FnExactParseIntCardSaid : Prop := Claim7.holds Tryd.pinned (.plain (OpenSpec.ofChange fnExactParseIntSpec)) fnExactParseIntCard

/-- THE TIED CARD OF 'laws.FnExactParseRecord'. -/
def fnExactParseRecordCard : Claim7 := { stood := { row := fnExactParseRecordRow, standIns := [], harness := (true, "706c7cbbf40090eb8b1ed9bbaca07d6a8cee5d8fa4081eb550223f4b707f90ee"), looks := true }, kinds := [], alts := [], laidByText := true, laidKinds := [.data, .data, .data, .data, .pinned], laidTests := true, laidLooks := .later }
def FnExactParseRecordCardSaid : Prop := Claim7.holds Tryd.pinned (.plain (OpenSpec.ofChange fnExactParseRecordSpec)) fnExactParseRecordCard

/-- THE TIED CARD OF 'laws.FnExactParseSchedule'. -/
def fnExactParseScheduleCard : Claim7 := { stood := { row := fnExactParseScheduleRow, standIns := [], harness := (true, "706c7cbbf40090eb8b1ed9bbaca07d6a8cee5d8fa4081eb550223f4b707f90ee"), looks := true }, kinds := [], alts := [], laidByText := true, laidKinds := [.data, .data, .data, .data, .pinned], laidTests := true, laidLooks := .later }
def FnExactParseScheduleCardSaid : Prop := Claim7.holds Tryd.pinned (.plain (OpenSpec.ofChange fnExactParseScheduleSpec)) fnExactParseScheduleCard

/-- THE SECOND FORM's CARD OF 'laws.FnExactFormatInt'. -/
def fnExactFormatIntUptoCard : Claim7 := { stood := { row := fnExactFormatIntUptoRow, standIns := [], harness := (true, "706c7cbbf40090eb8b1ed9bbaca07d6a8cee5d8fa4081eb550223f4b707f90ee"), looks := true }, kinds := [], alts := [], laidByText := true, laidKinds := [.data, .data, .data], laidTests := true, laidLooks := .later }
def FnExactFormatIntUptoCardSaid : Prop := Claim7.holds Tryd.pinned (.plain (OpenSpec.upto fnExactFormatIntSpec)) fnExactFormatIntUptoCard

/-- THE SECOND FORM's CARD OF 'laws.FnExactSplitString'. -/
def fnExactSplitStringUptoCard : Claim7 := { stood := { row := fnExactSplitStringUptoRow, standIns := [], harness := (true, "706c7cbbf40090eb8b1ed9bbaca07d6a8cee5d8fa4081eb550223f4b707f90ee"), looks := true }, kinds := [], alts := [], laidByText := true, laidKinds := [.data, .pinned], laidTests := true, laidLooks := .later }
def FnExactSplitStringUptoCardSaid : Prop := Claim7.holds Tryd.pinned (.plain (OpenSpec.upto fnExactSplitStringSpec)) fnExactSplitStringUptoCard

/-- THE SECOND FORM's CARD OF 'laws.FnExactRecordText'. -/
def fnExactRecordTextUptoCard : Claim7 := { stood := { row := fnExactRecordTextUptoRow, standIns := [], harness := (true, "706c7cbbf40090eb8b1ed9bbaca07d6a8cee5d8fa4081eb550223f4b707f90ee"), looks := true }, kinds := [], alts := [], laidByText := true, laidKinds := [.data, .data, .data], laidTests := true, laidLooks := .later }
def FnExactRecordTextUptoCardSaid : Prop := Claim7.holds Tryd.pinned (.plain (OpenSpec.upto fnExactRecordTextSpec)) fnExactRecordTextUptoCard

/-- THE SECOND FORM's CARD OF 'laws.FnExactAppendChecksum'. -/
def fnExactAppendChecksumUptoCard : Claim7 := { stood := { row := fnExactAppendChecksumUptoRow, standIns := [], harness := (true, "706c7cbbf40090eb8b1ed9bbaca07d6a8cee5d8fa4081eb550223f4b707f90ee"), looks := true }, kinds := [], alts := [], laidByText := true, laidKinds := [.data, .data, .data], laidTests := true, laidLooks := .later }
def FnExactAppendChecksumUptoCardSaid : Prop := Claim7.holds Tryd.pinned (.plain (OpenSpec.upto fnExactAppendChecksumSpec)) fnExactAppendChecksumUptoCard

/-- THE SECOND FORM's CARD OF 'laws.FnExactVerifyChecksum'. -/
def fnExactVerifyChecksumUptoCard : Claim7 := { stood := { row := fnExactVerifyChecksumUptoRow, standIns := [], harness := (true, "706c7cbbf40090eb8b1ed9bbaca07d6a8cee5d8fa4081eb550223f4b707f90ee"), looks := true }, kinds := [], alts := [], laidByText := true, laidKinds := [.data, .data, .data], laidTests := true, laidLooks := .later }
def FnExactVerifyChecksumUptoCardSaid : Prop := Claim7.holds Tryd.pinned (.plain (OpenSpec.upto fnExactVerifyChecksumSpec)) fnExactVerifyChecksumUptoCard

/-- THE SECOND FORM's CARD OF 'laws.FnExactScheduleText'. -/
def fnExactScheduleTextUptoCard : Claim7 := { stood := { row := fnExactScheduleTextUptoRow, standIns := [], harness := (true, "706c7cbbf40090eb8b1ed9bbaca07d6a8cee5d8fa4081eb550223f4b707f90ee"), looks := true }, kinds := [], alts := [], laidByText := true, laidKinds := [.data, .data, .data], laidTests := true, laidLooks := .later }
def FnExactScheduleTextUptoCardSaid : Prop := Claim7.holds Tryd.pinned (.plain (OpenSpec.upto fnExactScheduleTextSpec)) fnExactScheduleTextUptoCard

/-- THE SECOND FORM's CARD OF 'laws.FnExactParseInt'. -/
def fnExactParseIntUptoCard : Claim7 := { stood := { row := fnExactParseIntUptoRow, standIns := [], harness := (true, "706c7cbbf40090eb8b1ed9bbaca07d6a8cee5d8fa4081eb550223f4b707f90ee"), looks := true }, kinds := [], alts := [], laidByText := true, laidKinds := [.data, .data, .data, .sentinel, .sentinel], laidTests := true, laidLooks := .later }
def FnExactParseIntUptoCardSaid : Prop := Claim7.holds Tryd.pinned (.plain (OpenSpec.upto fnExactParseIntSpec)) fnExactParseIntUptoCard

/-- THE SECOND FORM's CARD OF 'laws.FnExactParseRecord'. -/
def fnExactParseRecordUptoCard : Claim7 := { stood := { row := fnExactParseRecordUptoRow, standIns := [], harness := (true, "706c7cbbf40090eb8b1ed9bbaca07d6a8cee5d8fa4081eb550223f4b707f90ee"), looks := true }, kinds := [], alts := [], laidByText := true, laidKinds := [.data, .data, .data, .data, .pinned], laidTests := true, laidLooks := .later }
def FnExactParseRecordUptoCardSaid : Prop := Claim7.holds Tryd.pinned (.plain (OpenSpec.upto fnExactParseRecordSpec)) fnExactParseRecordUptoCard

/-- THE SECOND FORM's CARD OF 'laws.FnExactParseSchedule'. -/
def fnExactParseScheduleUptoCard : Claim7 := { stood := { row := fnExactParseScheduleUptoRow, standIns := [], harness := (true, "706c7cbbf40090eb8b1ed9bbaca07d6a8cee5d8fa4081eb550223f4b707f90ee"), looks := true }, kinds := [], alts := [], laidByText := true, laidKinds := [.data, .data, .data, .data, .pinned], laidTests := true, laidLooks := .later }
def FnExactParseScheduleUptoCardSaid : Prop := Claim7.holds Tryd.pinned (.plain (OpenSpec.upto fnExactParseScheduleSpec)) fnExactParseScheduleUptoCard
end Rows
end Go.Proofs.YtebomppjcaahpaaDoor
