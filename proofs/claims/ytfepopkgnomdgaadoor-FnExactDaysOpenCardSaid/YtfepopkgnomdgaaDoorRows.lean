/-
  NARROWER THAN 'FOR EVERY INPUT', by the rows' own cells (each row's printed sentence says how): FnExactAreFiles: laid · FnExactDaysOpen: laid · FnExactCloseFile: laid · FnExactReopenFile: laid · FnExactLendFile: laid · FnExactAddPages: laid · FnExactSplitFile: laid · FnExactClosedSince: laid · FnExactSeriesPages: laid.
  DERIVED. THE GIVEN ROWS OF THIS SEAT. 9 by the template 'for every input the law returns true; each argument reads behind the call as it read before'; 0 by the template 'total and deterministic' (their statements: YtfepopkgnomdgaaDoorTotals.lean).
  GIVEN WITH THE SEED: the statements are not yours to turn. If you find one false, say at which input.
  Laid BY PROGRAM, IN A SANDBOX (cutbox-rows.mjs): the forced cells as the released guide's own fill.sh prints them over the translation de356b7d86add14a… (all of the seat's roots in one cut). By AI agents, Wed Nov 11 2026. No macro, syntax, notation, axiom, sorry.
-/
import Derived.Test.YtfepopkgnomdgaaDoorChecked
import GoSem.PinnedTables
import GoSem.Claim
import GoSem.ClaimJoined
import GoSem.ClaimMapViews
import Derived.JoinedTies
import Derived.KernelRfl
namespace Go.Proofs.YtfepopkgnomdgaaDoor
/- THE CELL 'sum', in the pinned program and in every row, IS THE sha256 OF THE DUMP (.gsa) THAT YtfepopkgnomdgaaDoorProg.lean LOADS. Nothing in Lean hashes anything: it is a label: what it is worth is what the hold of that sum in a sandbox is worth. -/
noncomputable def Tryd.pinned : Pinned := { name := "ytfepopkgnomdgaadoor", sum := "de356b7d86add14a9887aab5555d7a62c7f4a9ea23a108cf8acbd8f907779704", checked := Tryd.checked }
namespace Rows
def none {H : Type} : Left H := { results := [], args := [] }

/- WHAT THE LISTED PACKAGE-LEVEL VARIABLES READ AS WHEN THE CALL BEGINS. Each datum BY PROGRAM (the guide's laid-datum.mjs) off the statement by which the dump's own 'gosem.cut.vars' lays the variable. In a bare row this is a premise. The card (YtfepopkgnomdgaaDoorCards.lean) ties it to the program's text. -/
def laid_unicode_utf8_acceptRanges {H : Type} : DataW H := .agg [.agg [.lit (.int .u8 128), .lit (.int .u8 191)], .agg [.lit (.int .u8 160), .lit (.int .u8 191)], .agg [.lit (.int .u8 128), .lit (.int .u8 159)], .agg [.lit (.int .u8 144), .lit (.int .u8 191)], .agg [.lit (.int .u8 128), .lit (.int .u8 143)], .agg [.lit (.int .u8 0), .lit (.int .u8 0)], .agg [.lit (.int .u8 0), .lit (.int .u8 0)], .agg [.lit (.int .u8 0), .lit (.int .u8 0)], .agg [.lit (.int .u8 0), .lit (.int .u8 0)], .agg [.lit (.int .u8 0), .lit (.int .u8 0)], .agg [.lit (.int .u8 0), .lit (.int .u8 0)], .agg [.lit (.int .u8 0), .lit (.int .u8 0)], .agg [.lit (.int .u8 0), .lit (.int .u8 0)], .agg [.lit (.int .u8 0), .lit (.int .u8 0)], .agg [.lit (.int .u8 0), .lit (.int .u8 0)], .agg [.lit (.int .u8 0), .lit (.int .u8 0)]]
/-- One of Go's own tables, pinned by name: the form's constant. -/
def laid_unicode_utf8_first : DataW Unit := Go.Pinned.utf8First

/-- 'laws.FnExactAreFiles': WHATEVER THE INPUT: true; the input reads as it did. -/
def fnExactAreFilesSpec : ChangeSpec := { name := "fnExactAreFiles", fn := fun _ => fun
  | [d] => { results := [.lit (.bool true)], args := [d] }
  | _ => none }
def fnExactAreFilesRow : OpenClaim := { program := "ytfepopkgnomdgaadoor", sum := "de356b7d86add14a9887aab5555d7a62c7f4a9ea23a108cf8acbd8f907779704", func := "loop.example/g01035/laws.FnExactAreFiles", spec := "fnExactAreFiles", inPlace := ["internal/bytealg.IndexByteString", "internal/bytealg.IndexString"], unfollowed := true, recurses := true, named := ["unicode/utf8.first", "unicode/utf8.acceptRanges", "internal/bytealg.MaxLen"], apart := false, laid := [("unicode/utf8.acceptRanges", laid_unicode_utf8_acceptRanges), ("unicode/utf8.first", laid_unicode_utf8_first)] }
def FnExactAreFilesSaid : Prop := fnExactAreFilesRow.holds Tryd.pinned (OpenSpec.ofChange fnExactAreFilesSpec)

/-- ITS FALSE NEIGHBOUR: 'it returns false'. Refute it at one input. -/
def fnExactAreFilesWrong : ChangeSpec := { name := "fnExactAreFiles", fn := fun _ => fun
  | [d] => { results := [.lit (.bool false)], args := [d] }
  | _ => none }
def FnExactAreFilesWrongFalsely : Prop := fnExactAreFilesRow.holds Tryd.pinned (OpenSpec.ofChange fnExactAreFilesWrong)

/-- 'laws.FnExactDaysOpen': WHATEVER THE INPUT: true; the input reads as it did. -/
def fnExactDaysOpenSpec : ChangeSpec := { name := "fnExactDaysOpen", fn := fun _ => fun
  | [d1, d2, d3] => { results := [.lit (.bool true)], args := [d1, d2, d3] }
  | _ => none }
def fnExactDaysOpenRow : OpenClaim := { program := "ytfepopkgnomdgaadoor", sum := "de356b7d86add14a9887aab5555d7a62c7f4a9ea23a108cf8acbd8f907779704", func := "loop.example/g01035/laws.FnExactDaysOpen", spec := "fnExactDaysOpen", inPlace := ["internal/bytealg.IndexByteString", "internal/bytealg.IndexString"], unfollowed := true, recurses := true, named := ["unicode/utf8.first", "unicode/utf8.acceptRanges", "internal/bytealg.MaxLen"], apart := false, laid := [("unicode/utf8.acceptRanges", laid_unicode_utf8_acceptRanges), ("unicode/utf8.first", laid_unicode_utf8_first)] }
def FnExactDaysOpenSaid : Prop := fnExactDaysOpenRow.holds Tryd.pinned (OpenSpec.ofChange fnExactDaysOpenSpec)

/-- ITS FALSE NEIGHBOUR: 'it returns false'. Refute it at one input. -/
def fnExactDaysOpenWrong : ChangeSpec := { name := "fnExactDaysOpen", fn := fun _ => fun
  | [d1, d2, d3] => { results := [.lit (.bool false)], args := [d1, d2, d3] }
  | _ => none }
def FnExactDaysOpenWrongFalsely : Prop := fnExactDaysOpenRow.holds Tryd.pinned (OpenSpec.ofChange fnExactDaysOpenWrong)

/-- 'laws.FnExactCloseFile': WHATEVER THE INPUT: true; the input reads as it did. -/
def fnExactCloseFileSpec : ChangeSpec := { name := "fnExactCloseFile", fn := fun _ => fun
  | [d1, d2, d3] => { results := [.lit (.bool true)], args := [d1, d2, d3] }
  | _ => none }
def fnExactCloseFileRow : OpenClaim := { program := "ytfepopkgnomdgaadoor", sum := "de356b7d86add14a9887aab5555d7a62c7f4a9ea23a108cf8acbd8f907779704", func := "loop.example/g01035/laws.FnExactCloseFile", spec := "fnExactCloseFile", inPlace := ["internal/bytealg.IndexByteString", "internal/bytealg.IndexString"], unfollowed := true, recurses := true, named := ["unicode/utf8.first", "unicode/utf8.acceptRanges", "internal/bytealg.MaxLen"], apart := false, laid := [("unicode/utf8.acceptRanges", laid_unicode_utf8_acceptRanges), ("unicode/utf8.first", laid_unicode_utf8_first)] }
def FnExactCloseFileSaid : Prop := fnExactCloseFileRow.holds Tryd.pinned (OpenSpec.ofChange fnExactCloseFileSpec)

/-- ITS FALSE NEIGHBOUR: 'it returns false'. Refute it at one input. -/
def fnExactCloseFileWrong : ChangeSpec := { name := "fnExactCloseFile", fn := fun _ => fun
  | [d1, d2, d3] => { results := [.lit (.bool false)], args := [d1, d2, d3] }
  | _ => none }
def FnExactCloseFileWrongFalsely : Prop := fnExactCloseFileRow.holds Tryd.pinned (OpenSpec.ofChange fnExactCloseFileWrong)

/-- 'laws.FnExactReopenFile': WHATEVER THE INPUT: true; the input reads as it did. -/
def fnExactReopenFileSpec : ChangeSpec := { name := "fnExactReopenFile", fn := fun _ => fun
  | [d1, d2] => { results := [.lit (.bool true)], args := [d1, d2] }
  | _ => none }
def fnExactReopenFileRow : OpenClaim := { program := "ytfepopkgnomdgaadoor", sum := "de356b7d86add14a9887aab5555d7a62c7f4a9ea23a108cf8acbd8f907779704", func := "loop.example/g01035/laws.FnExactReopenFile", spec := "fnExactReopenFile", inPlace := ["internal/bytealg.IndexByteString", "internal/bytealg.IndexString"], unfollowed := true, recurses := true, named := ["unicode/utf8.first", "unicode/utf8.acceptRanges", "internal/bytealg.MaxLen"], apart := false, laid := [("unicode/utf8.acceptRanges", laid_unicode_utf8_acceptRanges), ("unicode/utf8.first", laid_unicode_utf8_first)] }
def FnExactReopenFileSaid : Prop := fnExactReopenFileRow.holds Tryd.pinned (OpenSpec.ofChange fnExactReopenFileSpec)

/-- ITS FALSE NEIGHBOUR: 'it returns false'. Refute it at one input. -/
def fnExactReopenFileWrong : ChangeSpec := { name := "fnExactReopenFile", fn := fun _ => fun
  | [d1, d2] => { results := [.lit (.bool false)], args := [d1, d2] }
  | _ => none }
def FnExactReopenFileWrongFalsely : Prop := fnExactReopenFileRow.holds Tryd.pinned (OpenSpec.ofChange fnExactReopenFileWrong)

/-- 'laws.FnExactLendFile': WHATEVER THE INPUT: true; the input reads as it did. -/
def fnExactLendFileSpec : ChangeSpec := { name := "fnExactLendFile", fn := fun _ => fun
  | [d1, d2, d3] => { results := [.lit (.bool true)], args := [d1, d2, d3] }
  | _ => none }
def fnExactLendFileRow : OpenClaim := { program := "ytfepopkgnomdgaadoor", sum := "de356b7d86add14a9887aab5555d7a62c7f4a9ea23a108cf8acbd8f907779704", func := "loop.example/g01035/laws.FnExactLendFile", spec := "fnExactLendFile", inPlace := ["internal/bytealg.IndexByteString", "internal/bytealg.IndexString"], unfollowed := true, recurses := true, named := ["unicode/utf8.first", "unicode/utf8.acceptRanges", "internal/bytealg.MaxLen"], apart := false, laid := [("unicode/utf8.acceptRanges", laid_unicode_utf8_acceptRanges), ("unicode/utf8.first", laid_unicode_utf8_first)] }
def FnExactLendFileSaid : Prop := fnExactLendFileRow.holds Tryd.pinned (OpenSpec.ofChange fnExactLendFileSpec)

/-- ITS FALSE NEIGHBOUR: 'it returns false'. Refute it at one input. -/
def fnExactLendFileWrong : ChangeSpec := { name := "fnExactLendFile", fn := fun _ => fun
  | [d1, d2, d3] => { results := [.lit (.bool false)], args := [d1, d2, d3] }
  | _ => none }
def FnExactLendFileWrongFalsely : Prop := fnExactLendFileRow.holds Tryd.pinned (OpenSpec.ofChange fnExactLendFileWrong)

/-- 'laws.FnExactAddPages': WHATEVER THE INPUT: true; the input reads as it did. -/
def fnExactAddPagesSpec : ChangeSpec := { name := "fnExactAddPages", fn := fun _ => fun
  | [d1, d2, d3] => { results := [.lit (.bool true)], args := [d1, d2, d3] }
  | _ => none }
def fnExactAddPagesRow : OpenClaim := { program := "ytfepopkgnomdgaadoor", sum := "de356b7d86add14a9887aab5555d7a62c7f4a9ea23a108cf8acbd8f907779704", func := "loop.example/g01035/laws.FnExactAddPages", spec := "fnExactAddPages", inPlace := ["internal/bytealg.IndexByteString", "internal/bytealg.IndexString"], unfollowed := true, recurses := true, named := ["unicode/utf8.first", "unicode/utf8.acceptRanges", "internal/bytealg.MaxLen"], apart := false, laid := [("unicode/utf8.acceptRanges", laid_unicode_utf8_acceptRanges), ("unicode/utf8.first", laid_unicode_utf8_first)] }
def FnExactAddPagesSaid : Prop := fnExactAddPagesRow.holds Tryd.pinned (OpenSpec.ofChange fnExactAddPagesSpec)

/-- ITS FALSE NEIGHBOUR: 'it returns false'. Refute it at one input. -/
def fnExactAddPagesWrong : ChangeSpec := { name := "fnExactAddPages", fn := fun _ => fun
  | [d1, d2, d3] => { results := [.lit (.bool false)], args := [d1, d2, d3] }
  | _ => none }
def FnExactAddPagesWrongFalsely : Prop := fnExactAddPagesRow.holds Tryd.pinned (OpenSpec.ofChange fnExactAddPagesWrong)

/-- 'laws.FnExactSplitFile': WHATEVER THE INPUT: true; the input reads as it did. -/
def fnExactSplitFileSpec : ChangeSpec := { name := "fnExactSplitFile", fn := fun _ => fun
  | [d1, d2, d3, d4] => { results := [.lit (.bool true)], args := [d1, d2, d3, d4] }
  | _ => none }
def fnExactSplitFileRow : OpenClaim := { program := "ytfepopkgnomdgaadoor", sum := "de356b7d86add14a9887aab5555d7a62c7f4a9ea23a108cf8acbd8f907779704", func := "loop.example/g01035/laws.FnExactSplitFile", spec := "fnExactSplitFile", inPlace := ["internal/bytealg.IndexByteString", "internal/bytealg.IndexString"], unfollowed := true, recurses := true, named := ["unicode/utf8.first", "unicode/utf8.acceptRanges", "internal/bytealg.MaxLen"], apart := false, laid := [("unicode/utf8.acceptRanges", laid_unicode_utf8_acceptRanges), ("unicode/utf8.first", laid_unicode_utf8_first)] }
def FnExactSplitFileSaid : Prop := fnExactSplitFileRow.holds Tryd.pinned (OpenSpec.ofChange fnExactSplitFileSpec)

/-- ITS FALSE NEIGHBOUR: 'it returns false'. Refute it at one input. -/
def fnExactSplitFileWrong : ChangeSpec := { name := "fnExactSplitFile", fn := fun _ => fun
  | [d1, d2, d3, d4] => { results := [.lit (.bool false)], args := [d1, d2, d3, d4] }
  | _ => none }
def FnExactSplitFileWrongFalsely : Prop := fnExactSplitFileRow.holds Tryd.pinned (OpenSpec.ofChange fnExactSplitFileWrong)

/-- 'laws.FnExactClosedSince': WHATEVER THE INPUT: true; the input reads as it did. -/
def fnExactClosedSinceSpec : ChangeSpec := { name := "fnExactClosedSince", fn := fun _ => fun
  | [d1, d2, d3] => { results := [.lit (.bool true)], args := [d1, d2, d3] }
  | _ => none }
def fnExactClosedSinceRow : OpenClaim := { program := "ytfepopkgnomdgaadoor", sum := "de356b7d86add14a9887aab5555d7a62c7f4a9ea23a108cf8acbd8f907779704", func := "loop.example/g01035/laws.FnExactClosedSince", spec := "fnExactClosedSince", inPlace := ["internal/bytealg.IndexByteString", "internal/bytealg.IndexString"], unfollowed := true, recurses := true, named := ["unicode/utf8.first", "unicode/utf8.acceptRanges", "internal/bytealg.MaxLen"], apart := false, laid := [("unicode/utf8.acceptRanges", laid_unicode_utf8_acceptRanges), ("unicode/utf8.first", laid_unicode_utf8_first)] }
def FnExactClosedSinceSaid : Prop := fnExactClosedSinceRow.holds Tryd.pinned (OpenSpec.ofChange fnExactClosedSinceSpec)

/-- ITS FALSE NEIGHBOUR: 'it returns false'. Refute it at one input. -/
def fnExactClosedSinceWrong : ChangeSpec := { name := "fnExactClosedSince", fn := fun _ => fun
  | [d1, d2, d3] => { results := [.lit (.bool false)], args := [d1, d2, d3] }
  | _ => none }
def FnExactClosedSinceWrongFalsely : Prop := fnExactClosedSinceRow.holds Tryd.pinned (OpenSpec.ofChange fnExactClosedSinceWrong)

/-- 'laws.FnExactSeriesPages': WHATEVER THE INPUT: true; the input reads as it did. -/
def fnExactSeriesPagesSpec : ChangeSpec := { name := "fnExactSeriesPages", fn := fun _ => fun
  | [d] => { results := [.lit (.bool true)], args := [d] }
  | _ => none }
def fnExactSeriesPagesRow : OpenClaim := { program := "ytfepopkgnomdgaadoor", sum := "de356b7d86add14a9887aab5555d7a62c7f4a9ea23a108cf8acbd8f907779704", func := "loop.example/g01035/laws.FnExactSeriesPages", spec := "fnExactSeriesPages", inPlace := ["internal/bytealg.IndexByteString", "internal/bytealg.IndexString", "slices.overlaps[[]int]"], unfollowed := true, recurses := true, named := ["unicode/utf8.first", "unicode/utf8.acceptRanges", "internal/bytealg.MaxLen"], apart := false, laid := [("unicode/utf8.acceptRanges", laid_unicode_utf8_acceptRanges), ("unicode/utf8.first", laid_unicode_utf8_first)] }
def FnExactSeriesPagesSaid : Prop := fnExactSeriesPagesRow.holds Tryd.pinned (OpenSpec.ofChange fnExactSeriesPagesSpec)

/-- ITS FALSE NEIGHBOUR: 'it returns false'. Refute it at one input. -/
def fnExactSeriesPagesWrong : ChangeSpec := { name := "fnExactSeriesPages", fn := fun _ => fun
  | [d] => { results := [.lit (.bool false)], args := [d] }
  | _ => none }
def FnExactSeriesPagesWrongFalsely : Prop := fnExactSeriesPagesRow.holds Tryd.pinned (OpenSpec.ofChange fnExactSeriesPagesWrong)

/- THE SECOND FORM. 'bulk': how many values and letters a reading holds, each counted each time it is reached (what is shared counts as often as it is met; a slice's spare places count too). A statement '..UptoSaid' is the law's where the arguments, and the package variables that the reading takes, are together of bulk at most 1048576: NARROWER than '..Said'. Prove '..Said' where nothing that the law and all that it calls make is longer than what came in: it says more and counts as full. Else prove '..UptoSaid'. A law counts once. -/
mutual
def uptoBulk {H : Type} : DataW H → Nat
  | .lit (.string bytes) => bytes.length + 1
  | .lit _ => 1
  | .nil => 1
  | .ptr d => uptoBulk d + 1
  | .slice elems spare => uptoBulkAll elems + uptoBulkAll spare + 1
  | .agg parts => uptoBulkAll parts + 1
  | .iface _ d => uptoBulk d + 1
  | .map entries => uptoBulkEntries entries + 1
  | .held _ => 1
def uptoBulkAll {H : Type} : List (DataW H) → Nat
  | [] => 0
  | d :: r => uptoBulk d + uptoBulkAll r
def uptoBulkEntries {H : Type} : List (Lit × DataW H) → Nat
  | [] => 0
  | x :: r => uptoBulkEntry x + uptoBulkEntries r
def uptoBulkEntry {H : Type} : Lit × DataW H → Nat
  | (.string bytes, d) => bytes.length + uptoBulk d + 1
  | (_, d) => uptoBulk d + 1
 end
def uptoSmall : (H : Type) → List (DataW H) → Bool := fun _ ds => decide (uptoBulkAll ds ≤ 1048576)
def OpenSpec.upto (s : _root_.Go.ChangeSpec) : _root_.Go.OpenSpec := { _root_.Go.OpenSpec.ofChange s with cond := some uptoSmall }

/-- 'laws.FnExactAreFiles', WHERE WHAT IT READS IS OF BULK AT MOST 1048576: true; the input reads as it did. -/
def fnExactAreFilesUptoRow : OpenClaim := { program := "ytfepopkgnomdgaadoor", sum := "de356b7d86add14a9887aab5555d7a62c7f4a9ea23a108cf8acbd8f907779704", func := "loop.example/g01035/laws.FnExactAreFiles", spec := "fnExactAreFiles", inPlace := ["internal/bytealg.IndexByteString", "internal/bytealg.IndexString"], unfollowed := true, recurses := true, named := ["unicode/utf8.first", "unicode/utf8.acceptRanges", "internal/bytealg.MaxLen"], apart := false, laid := [("unicode/utf8.acceptRanges", laid_unicode_utf8_acceptRanges), ("unicode/utf8.first", laid_unicode_utf8_first)], narrowed := true }
def FnExactAreFilesUptoSaid : Prop := fnExactAreFilesUptoRow.holds Tryd.pinned (OpenSpec.upto fnExactAreFilesSpec)

/-- 'laws.FnExactDaysOpen', WHERE WHAT IT READS IS OF BULK AT MOST 1048576: true; the input reads as it did. -/
def fnExactDaysOpenUptoRow : OpenClaim := { program := "ytfepopkgnomdgaadoor", sum := "de356b7d86add14a9887aab5555d7a62c7f4a9ea23a108cf8acbd8f907779704", func := "loop.example/g01035/laws.FnExactDaysOpen", spec := "fnExactDaysOpen", inPlace := ["internal/bytealg.IndexByteString", "internal/bytealg.IndexString"], unfollowed := true, recurses := true, named := ["unicode/utf8.first", "unicode/utf8.acceptRanges", "internal/bytealg.MaxLen"], apart := false, laid := [("unicode/utf8.acceptRanges", laid_unicode_utf8_acceptRanges), ("unicode/utf8.first", laid_unicode_utf8_first)], narrowed := true }
def FnExactDaysOpenUptoSaid : Prop := fnExactDaysOpenUptoRow.holds Tryd.pinned (OpenSpec.upto fnExactDaysOpenSpec)

/-- 'laws.FnExactCloseFile', WHERE WHAT IT READS IS OF BULK AT MOST 1048576: true; the input reads as it did. -/
def fnExactCloseFileUptoRow : OpenClaim := { program := "ytfepopkgnomdgaadoor", sum := "de356b7d86add14a9887aab5555d7a62c7f4a9ea23a108cf8acbd8f907779704", func := "loop.example/g01035/laws.FnExactCloseFile", spec := "fnExactCloseFile", inPlace := ["internal/bytealg.IndexByteString", "internal/bytealg.IndexString"], unfollowed := true, recurses := true, named := ["unicode/utf8.first", "unicode/utf8.acceptRanges", "internal/bytealg.MaxLen"], apart := false, laid := [("unicode/utf8.acceptRanges", laid_unicode_utf8_acceptRanges), ("unicode/utf8.first", laid_unicode_utf8_first)], narrowed := true }
def FnExactCloseFileUptoSaid : Prop := fnExactCloseFileUptoRow.holds Tryd.pinned (OpenSpec.upto fnExactCloseFileSpec)

/-- 'laws.FnExactReopenFile', WHERE WHAT IT READS IS OF BULK AT MOST 1048576: true; the input reads as it did. -/
def fnExactReopenFileUptoRow : OpenClaim := { program := "ytfepopkgnomdgaadoor", sum := "de356b7d86add14a9887aab5555d7a62c7f4a9ea23a108cf8acbd8f907779704", func := "loop.example/g01035/laws.FnExactReopenFile", spec := "fnExactReopenFile", inPlace := ["internal/bytealg.IndexByteString", "internal/bytealg.IndexString"], unfollowed := true, recurses := true, named := ["unicode/utf8.first", "unicode/utf8.acceptRanges", "internal/bytealg.MaxLen"], apart := false, laid := [("unicode/utf8.acceptRanges", laid_unicode_utf8_acceptRanges), ("unicode/utf8.first", laid_unicode_utf8_first)], narrowed := true }
def FnExactReopenFileUptoSaid : Prop := fnExactReopenFileUptoRow.holds Tryd.pinned (OpenSpec.upto fnExactReopenFileSpec)

/-- 'laws.FnExactLendFile', WHERE WHAT IT READS IS OF BULK AT MOST 1048576: true; the input reads as it did. -/
def fnExactLendFileUptoRow : OpenClaim := { program := "ytfepopkgnomdgaadoor", sum := "de356b7d86add14a9887aab5555d7a62c7f4a9ea23a108cf8acbd8f907779704", func := "loop.example/g01035/laws.FnExactLendFile", spec := "fnExactLendFile", inPlace := ["internal/bytealg.IndexByteString", "internal/bytealg.IndexString"], unfollowed := true, recurses := true, named := ["unicode/utf8.first", "unicode/utf8.acceptRanges", "internal/bytealg.MaxLen"], apart := false, laid := [("unicode/utf8.acceptRanges", laid_unicode_utf8_acceptRanges), ("unicode/utf8.first", laid_unicode_utf8_first)], narrowed := true }
def FnExactLendFileUptoSaid : Prop := fnExactLendFileUptoRow.holds Tryd.pinned (OpenSpec.upto fnExactLendFileSpec)

/-- 'laws.FnExactAddPages', WHERE WHAT IT READS IS OF BULK AT MOST 1048576: true; the input reads as it did. -/
def fnExactAddPagesUptoRow : OpenClaim := { program := "ytfepopkgnomdgaadoor", sum := "de356b7d86add14a9887aab5555d7a62c7f4a9ea23a108cf8acbd8f907779704", func := "loop.example/g01035/laws.FnExactAddPages", spec := "fnExactAddPages", inPlace := ["internal/bytealg.IndexByteString", "internal/bytealg.IndexString"], unfollowed := true, recurses := true, named := ["unicode/utf8.first", "unicode/utf8.acceptRanges", "internal/bytealg.MaxLen"], apart := false, laid := [("unicode/utf8.acceptRanges", laid_unicode_utf8_acceptRanges), ("unicode/utf8.first", laid_unicode_utf8_first)], narrowed := true }
def FnExactAddPagesUptoSaid : Prop := fnExactAddPagesUptoRow.holds Tryd.pinned (OpenSpec.upto fnExactAddPagesSpec)

/-- 'laws.FnExactSplitFile', WHERE WHAT IT READS IS OF BULK AT MOST 1048576: true; the input reads as it did. -/
def fnExactSplitFileUptoRow : OpenClaim := { program := "ytfepopkgnomdgaadoor", sum := "de356b7d86add14a9887aab5555d7a62c7f4a9ea23a108cf8acbd8f907779704", func := "loop.example/g01035/laws.FnExactSplitFile", spec := "fnExactSplitFile", inPlace := ["internal/bytealg.IndexByteString", "internal/bytealg.IndexString"], unfollowed := true, recurses := true, named := ["unicode/utf8.first", "unicode/utf8.acceptRanges", "internal/bytealg.MaxLen"], apart := false, laid := [("unicode/utf8.acceptRanges", laid_unicode_utf8_acceptRanges), ("unicode/utf8.first", laid_unicode_utf8_first)], narrowed := true }
def FnExactSplitFileUptoSaid : Prop := fnExactSplitFileUptoRow.holds Tryd.pinned (OpenSpec.upto fnExactSplitFileSpec)

/-- 'laws.FnExactClosedSince', WHERE WHAT IT READS IS OF BULK AT MOST 1048576: true; the input reads as it did. -/
def fnExactClosedSinceUptoRow : OpenClaim := { program := "ytfepopkgnomdgaadoor", sum := "de356b7d86add14a9887aab5555d7a62c7f4a9ea23a108cf8acbd8f907779704", func := "loop.example/g01035/laws.FnExactClosedSince", spec := "fnExactClosedSince", inPlace := ["internal/bytealg.IndexByteString", "internal/bytealg.IndexString"], unfollowed := true, recurses := true, named := ["unicode/utf8.first", "unicode/utf8.acceptRanges", "internal/bytealg.MaxLen"], apart := false, laid := [("unicode/utf8.acceptRanges", laid_unicode_utf8_acceptRanges), ("unicode/utf8.first", laid_unicode_utf8_first)], narrowed := true }
def FnExactClosedSinceUptoSaid : Prop := fnExactClosedSinceUptoRow.holds Tryd.pinned (OpenSpec.upto fnExactClosedSinceSpec)

/-- 'laws.FnExactSeriesPages', WHERE WHAT IT READS IS OF BULK AT MOST 1048576: true; the input reads as it did. -/
def fnExactSeriesPagesUptoRow : OpenClaim := { program := "ytfepopkgnomdgaadoor", sum := "de356b7d86add14a9887aab5555d7a62c7f4a9ea23a108cf8acbd8f907779704", func := "loop.example/g01035/laws.FnExactSeriesPages", spec := "fnExactSeriesPages", inPlace := ["internal/bytealg.IndexByteString", "internal/bytealg.IndexString", "slices.overlaps[[]int]"], unfollowed := true, recurses := true, named := ["unicode/utf8.first", "unicode/utf8.acceptRanges", "internal/bytealg.MaxLen"], apart := false, laid := [("unicode/utf8.acceptRanges", laid_unicode_utf8_acceptRanges), ("unicode/utf8.first", laid_unicode_utf8_first)], narrowed := true }
def FnExactSeriesPagesUptoSaid : Prop := fnExactSeriesPagesUptoRow.holds Tryd.pinned (OpenSpec.upto fnExactSeriesPagesSpec)

end Rows
end Go.Proofs.YtfepopkgnomdgaaDoor
