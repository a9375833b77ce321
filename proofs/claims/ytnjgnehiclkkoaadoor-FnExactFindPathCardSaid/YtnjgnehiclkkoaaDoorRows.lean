/-
  NARROWER THAN 'FOR EVERY INPUT', by the rows' own cells (each row's printed sentence says how): FnExactAddFunction: laid · FnExactMoveUnder: laid · FnExactWithoutLeaf: laid · FnExactSharedPath: laid · FnExactNamedPath: laid · FnExactFindPath: laid.
  DERIVED. THE GIVEN ROWS OF THIS SEAT. 6 by the template 'for every input the law returns true; each argument reads behind the call as it read before'; 0 by the template 'total and deterministic' (their statements: YtnjgnehiclkkoaaDoorTotals.lean).
  GIVEN WITH THE SEED: the statements are not yours to turn. If you find one false, say at which input.
  Laid BY PROGRAM, IN A SANDBOX (cutbox-rows.mjs): the forced cells as the released guide's own fill.sh prints them over the translation 82a05ffa28459c6b… (all of the seat's roots in one cut). By AI agents, Wed Nov 11 2026. No macro, syntax, notation, axiom, sorry.
-/
import Derived.Test.YtnjgnehiclkkoaaDoorChecked
import GoSem.PinnedTables
import GoSem.Claim
import GoSem.ClaimJoined
import GoSem.ClaimMapViews
import Derived.JoinedTies
import Derived.KernelRfl
namespace Go.Proofs.YtnjgnehiclkkoaaDoor
/- THE CELL 'sum', in the pinned program and in every row, IS THE sha256 OF THE DUMP (.gsa) THAT YtnjgnehiclkkoaaDoorProg.lean LOADS. Nothing in Lean hashes anything: it is a label: what it is worth is what the hold of that sum in a sandbox is worth. -/
noncomputable def Tryd.pinned : Pinned := { name := "ytnjgnehiclkkoaadoor", sum := "82a05ffa28459c6ba4d63008d0242abf12d8b17b8bf188e23976827953d6a401", checked := Tryd.checked }
namespace Rows
def none {H : Type} : Left H := { results := [], args := [] }

/- WHAT THE LISTED PACKAGE-LEVEL VARIABLES READ AS WHEN THE CALL BEGINS. Each datum BY PROGRAM (the guide's laid-datum.mjs) off the statement by which the dump's own 'gosem.cut.vars' lays the variable. In a bare row this is a premise. The card (YtnjgnehiclkkoaaDoorCards.lean) ties it to the program's text. -/
def laid_unicode_utf8_acceptRanges {H : Type} : DataW H := .agg [.agg [.lit (.int .u8 128), .lit (.int .u8 191)], .agg [.lit (.int .u8 160), .lit (.int .u8 191)], .agg [.lit (.int .u8 128), .lit (.int .u8 159)], .agg [.lit (.int .u8 144), .lit (.int .u8 191)], .agg [.lit (.int .u8 128), .lit (.int .u8 143)], .agg [.lit (.int .u8 0), .lit (.int .u8 0)], .agg [.lit (.int .u8 0), .lit (.int .u8 0)], .agg [.lit (.int .u8 0), .lit (.int .u8 0)], .agg [.lit (.int .u8 0), .lit (.int .u8 0)], .agg [.lit (.int .u8 0), .lit (.int .u8 0)], .agg [.lit (.int .u8 0), .lit (.int .u8 0)], .agg [.lit (.int .u8 0), .lit (.int .u8 0)], .agg [.lit (.int .u8 0), .lit (.int .u8 0)], .agg [.lit (.int .u8 0), .lit (.int .u8 0)], .agg [.lit (.int .u8 0), .lit (.int .u8 0)], .agg [.lit (.int .u8 0), .lit (.int .u8 0)]]
/-- One of Go's own tables, pinned by name: the form's constant. -/
def laid_unicode_utf8_first : DataW Unit := Go.Pinned.utf8First

/-- 'laws.FnExactAddFunction': WHATEVER THE INPUT: true; the input reads as it did. -/
def fnExactAddFunctionSpec : ChangeSpec := { name := "fnExactAddFunction", fn := fun _ => fun
  | [d1, d2, d3] => { results := [.lit (.bool true)], args := [d1, d2, d3] }
  | _ => none }
def fnExactAddFunctionRow : OpenClaim := { program := "ytnjgnehiclkkoaadoor", sum := "82a05ffa28459c6ba4d63008d0242abf12d8b17b8bf188e23976827953d6a401", func := "loop.example/g01035/laws.FnExactAddFunction", spec := "fnExactAddFunction", inPlace := ["internal/bytealg.IndexByteString", "internal/bytealg.IndexString"], unfollowed := true, recurses := true, named := ["unicode/utf8.first", "unicode/utf8.acceptRanges", "internal/bytealg.MaxLen"], apart := false, laid := [("unicode/utf8.acceptRanges", laid_unicode_utf8_acceptRanges), ("unicode/utf8.first", laid_unicode_utf8_first)] }
def FnExactAddFunctionSaid : Prop := fnExactAddFunctionRow.holds Tryd.pinned (OpenSpec.ofChange fnExactAddFunctionSpec)

/-- ITS FALSE NEIGHBOUR: 'it returns false'. Refute it at one input. -/
def fnExactAddFunctionWrong : ChangeSpec := { name := "fnExactAddFunction", fn := fun _ => fun
  | [d1, d2, d3] => { results := [.lit (.bool false)], args := [d1, d2, d3] }
  | _ => none }
def FnExactAddFunctionWrongFalsely : Prop := fnExactAddFunctionRow.holds Tryd.pinned (OpenSpec.ofChange fnExactAddFunctionWrong)

/-- 'laws.FnExactMoveUnder': WHATEVER THE INPUT: true; the input reads as it did. -/
def fnExactMoveUnderSpec : ChangeSpec := { name := "fnExactMoveUnder", fn := fun _ => fun
  | [d1, d2, d3] => { results := [.lit (.bool true)], args := [d1, d2, d3] }
  | _ => none }
def fnExactMoveUnderRow : OpenClaim := { program := "ytnjgnehiclkkoaadoor", sum := "82a05ffa28459c6ba4d63008d0242abf12d8b17b8bf188e23976827953d6a401", func := "loop.example/g01035/laws.FnExactMoveUnder", spec := "fnExactMoveUnder", inPlace := ["internal/bytealg.IndexByteString", "internal/bytealg.IndexString"], unfollowed := true, recurses := true, named := ["unicode/utf8.first", "unicode/utf8.acceptRanges", "internal/bytealg.MaxLen"], apart := false, laid := [("unicode/utf8.acceptRanges", laid_unicode_utf8_acceptRanges), ("unicode/utf8.first", laid_unicode_utf8_first)] }
def FnExactMoveUnderSaid : Prop := fnExactMoveUnderRow.holds Tryd.pinned (OpenSpec.ofChange fnExactMoveUnderSpec)

/-- ITS FALSE NEIGHBOUR: 'it returns false'. Refute it at one input. -/
def fnExactMoveUnderWrong : ChangeSpec := { name := "fnExactMoveUnder", fn := fun _ => fun
  | [d1, d2, d3] => { results := [.lit (.bool false)], args := [d1, d2, d3] }
  | _ => none }
def FnExactMoveUnderWrongFalsely : Prop := fnExactMoveUnderRow.holds Tryd.pinned (OpenSpec.ofChange fnExactMoveUnderWrong)

/-- 'laws.FnExactWithoutLeaf': WHATEVER THE INPUT: true; the input reads as it did. -/
def fnExactWithoutLeafSpec : ChangeSpec := { name := "fnExactWithoutLeaf", fn := fun _ => fun
  | [d1, d2] => { results := [.lit (.bool true)], args := [d1, d2] }
  | _ => none }
def fnExactWithoutLeafRow : OpenClaim := { program := "ytnjgnehiclkkoaadoor", sum := "82a05ffa28459c6ba4d63008d0242abf12d8b17b8bf188e23976827953d6a401", func := "loop.example/g01035/laws.FnExactWithoutLeaf", spec := "fnExactWithoutLeaf", inPlace := ["internal/bytealg.IndexByteString", "internal/bytealg.IndexString"], unfollowed := true, recurses := true, named := ["unicode/utf8.first", "unicode/utf8.acceptRanges", "internal/bytealg.MaxLen"], apart := false, laid := [("unicode/utf8.acceptRanges", laid_unicode_utf8_acceptRanges), ("unicode/utf8.first", laid_unicode_utf8_first)] }
def FnExactWithoutLeafSaid : Prop := fnExactWithoutLeafRow.holds Tryd.pinned (OpenSpec.ofChange fnExactWithoutLeafSpec)

/-- ITS FALSE NEIGHBOUR: 'it returns false'. Refute it at one input. -/
def fnExactWithoutLeafWrong : ChangeSpec := { name := "fnExactWithoutLeaf", fn := fun _ => fun
  | [d1, d2] => { results := [.lit (.bool false)], args := [d1, d2] }
  | _ => none }
def FnExactWithoutLeafWrongFalsely : Prop := fnExactWithoutLeafRow.holds Tryd.pinned (OpenSpec.ofChange fnExactWithoutLeafWrong)

/-- 'laws.FnExactSharedPath': WHATEVER THE INPUT: true; the input reads as it did. -/
def fnExactSharedPathSpec : ChangeSpec := { name := "fnExactSharedPath", fn := fun _ => fun
  | [d1, d2, d3] => { results := [.lit (.bool true)], args := [d1, d2, d3] }
  | _ => none }
def fnExactSharedPathRow : OpenClaim := { program := "ytnjgnehiclkkoaadoor", sum := "82a05ffa28459c6ba4d63008d0242abf12d8b17b8bf188e23976827953d6a401", func := "loop.example/g01035/laws.FnExactSharedPath", spec := "fnExactSharedPath", inPlace := ["internal/bytealg.IndexByteString", "internal/bytealg.IndexString"], unfollowed := true, recurses := true, named := ["unicode/utf8.first", "unicode/utf8.acceptRanges", "internal/bytealg.MaxLen"], apart := false, laid := [("unicode/utf8.acceptRanges", laid_unicode_utf8_acceptRanges), ("unicode/utf8.first", laid_unicode_utf8_first)] }
def FnExactSharedPathSaid : Prop := fnExactSharedPathRow.holds Tryd.pinned (OpenSpec.ofChange fnExactSharedPathSpec)

/-- ITS FALSE NEIGHBOUR: 'it returns false'. Refute it at one input. -/
def fnExactSharedPathWrong : ChangeSpec := { name := "fnExactSharedPath", fn := fun _ => fun
  | [d1, d2, d3] => { results := [.lit (.bool false)], args := [d1, d2, d3] }
  | _ => none }
def FnExactSharedPathWrongFalsely : Prop := fnExactSharedPathRow.holds Tryd.pinned (OpenSpec.ofChange fnExactSharedPathWrong)

/-- 'laws.FnExactNamedPath': WHATEVER THE INPUT: true; the input reads as it did. -/
def fnExactNamedPathSpec : ChangeSpec := { name := "fnExactNamedPath", fn := fun _ => fun
  | [d1, d2] => { results := [.lit (.bool true)], args := [d1, d2] }
  | _ => none }
def fnExactNamedPathRow : OpenClaim := { program := "ytnjgnehiclkkoaadoor", sum := "82a05ffa28459c6ba4d63008d0242abf12d8b17b8bf188e23976827953d6a401", func := "loop.example/g01035/laws.FnExactNamedPath", spec := "fnExactNamedPath", inPlace := ["internal/bytealg.IndexByteString", "internal/bytealg.IndexString", "internal/abi.NoEscape", "internal/bytealg.MakeNoZero"], unfollowed := true, recurses := true, named := ["unicode/utf8.first", "unicode/utf8.acceptRanges", "internal/bytealg.MaxLen"], apart := false, laid := [("unicode/utf8.acceptRanges", laid_unicode_utf8_acceptRanges), ("unicode/utf8.first", laid_unicode_utf8_first)] }
def FnExactNamedPathSaid : Prop := fnExactNamedPathRow.holds Tryd.pinned (OpenSpec.ofChange fnExactNamedPathSpec)

/-- ITS FALSE NEIGHBOUR: 'it returns false'. Refute it at one input. -/
def fnExactNamedPathWrong : ChangeSpec := { name := "fnExactNamedPath", fn := fun _ => fun
  | [d1, d2] => { results := [.lit (.bool false)], args := [d1, d2] }
  | _ => none }
def FnExactNamedPathWrongFalsely : Prop := fnExactNamedPathRow.holds Tryd.pinned (OpenSpec.ofChange fnExactNamedPathWrong)

/-- 'laws.FnExactFindPath': WHATEVER THE INPUT: true; the input reads as it did. -/
def fnExactFindPathSpec : ChangeSpec := { name := "fnExactFindPath", fn := fun _ => fun
  | [d1, d2] => { results := [.lit (.bool true)], args := [d1, d2] }
  | _ => none }
def fnExactFindPathRow : OpenClaim := { program := "ytnjgnehiclkkoaadoor", sum := "82a05ffa28459c6ba4d63008d0242abf12d8b17b8bf188e23976827953d6a401", func := "loop.example/g01035/laws.FnExactFindPath", spec := "fnExactFindPath", inPlace := ["internal/bytealg.IndexByteString", "internal/bytealg.IndexString", "internal/abi.NoEscape", "internal/bytealg.MakeNoZero"], unfollowed := true, recurses := true, named := ["unicode/utf8.first", "unicode/utf8.acceptRanges", "internal/bytealg.MaxLen"], apart := false, laid := [("unicode/utf8.acceptRanges", laid_unicode_utf8_acceptRanges), ("unicode/utf8.first", laid_unicode_utf8_first)] }
def FnExactFindPathSaid : Prop := fnExactFindPathRow.holds Tryd.pinned (OpenSpec.ofChange fnExactFindPathSpec)

/-- ITS FALSE NEIGHBOUR: 'it returns false'. Refute it at one input. -/
def fnExactFindPathWrong : ChangeSpec := { name := "fnExactFindPath", fn := fun _ => fun
  | [d1, d2] => { results := [.lit (.bool false)], args := [d1, d2] }
  | _ => none }
def FnExactFindPathWrongFalsely : Prop := fnExactFindPathRow.holds Tryd.pinned (OpenSpec.ofChange fnExactFindPathWrong)

/- THE SECOND FORM. 'bulk': how many values and letters a reading holds, each counted each time it is reached (what is shared counts as often as it is met; a slice's spare places count too). A statement '..UptoSaid' is the law's where the arguments, and the package variables that the reading takes, are together of bulk at most 1048576: NARROWER than '..Said'. Prove '..Said' where nothing that the law and all that it calls make is longer than what came in: it says more and counts as full. Else prove '..UptoSaid'. A law counts once. -/
mutual
def uptoBulk {H : Type} : DataW H → Nat
  | .lit (.string bytes) => bytes.length + 1
  | .lit _ => 1
  | .nil => 1
  | .ptr d => uptoBulk d + 1
  | .slice elems spare => uptoBulkAll elems + uptoBulkAll spare + 1
  | .agg parts => uptoBulkAll parts + 1
  | .iface _ d => uptoBulk d + 1
  | .map entries => uptoBulkEntries entries + 1
  | .held _ => 1
def uptoBulkAll {H : Type} : List (DataW H) → Nat
  | [] => 0
  | d :: r => uptoBulk d + uptoBulkAll r
def uptoBulkEntries {H : Type} : List (Lit × DataW H) → Nat
  | [] => 0
  | x :: r => uptoBulkEntry x + uptoBulkEntries r
def uptoBulkEntry {H : Type} : Lit × DataW H → Nat
  | (.string bytes, d) => bytes.length + uptoBulk d + 1
  | (_, d) => uptoBulk d + 1
 end
def uptoSmall : (H : Type) → List (DataW H) → Bool := fun _ ds => decide (uptoBulkAll ds ≤ 1048576)
def OpenSpec.upto (s : _root_.Go.ChangeSpec) : _root_.Go.OpenSpec := { _root_.Go.OpenSpec.ofChange s with cond := some uptoSmall }

/-- 'laws.FnExactAddFunction', WHERE WHAT IT READS IS OF BULK AT MOST 1048576: true; the input reads as it did. -/
def fnExactAddFunctionUptoRow : OpenClaim := { program := "ytnjgnehiclkkoaadoor", sum := "82a05ffa28459c6ba4d63008d0242abf12d8b17b8bf188e23976827953d6a401", func := "loop.example/g01035/laws.FnExactAddFunction", spec := "fnExactAddFunction", inPlace := ["internal/bytealg.IndexByteString", "internal/bytealg.IndexString"], unfollowed := true, recurses := true, named := ["unicode/utf8.first", "unicode/utf8.acceptRanges", "internal/bytealg.MaxLen"], apart := false, laid := [("unicode/utf8.acceptRanges", laid_unicode_utf8_acceptRanges), ("unicode/utf8.first", laid_unicode_utf8_first)], narrowed := true }
def FnExactAddFunctionUptoSaid : Prop := fnExactAddFunctionUptoRow.holds Tryd.pinned (OpenSpec.upto fnExactAddFunctionSpec)

/-- 'laws.FnExactMoveUnder', WHERE WHAT IT READS IS OF BULK AT MOST 1048576: true; the input reads as it did. -/
def fnExactMoveUnderUptoRow : OpenClaim := { program := "ytnjgnehiclkkoaadoor", sum := "82a05ffa28459c6ba4d63008d0242abf12d8b17b8bf188e23976827953d6a401", func := "loop.example/g01035/laws.FnExactMoveUnder", spec := "fnExactMoveUnder", inPlace := ["internal/bytealg.IndexByteString", "internal/bytealg.IndexString"], unfollowed := true, recurses := true, named := ["unicode/utf8.first", "unicode/utf8.acceptRanges", "internal/bytealg.MaxLen"], apart := false, laid := [("unicode/utf8.acceptRanges", laid_unicode_utf8_acceptRanges), ("unicode/utf8.first", laid_unicode_utf8_first)], narrowed := true }
def FnExactMoveUnderUptoSaid : Prop := fnExactMoveUnderUptoRow.holds Tryd.pinned (OpenSpec.upto fnExactMoveUnderSpec)

/-- 'laws.FnExactWithoutLeaf', WHERE WHAT IT READS IS OF BULK AT MOST 1048576: true; the input reads as it did. -/
def fnExactWithoutLeafUptoRow : OpenClaim := { program := "ytnjgnehiclkkoaadoor", sum := "82a05ffa28459c6ba4d63008d0242abf12d8b17b8bf188e23976827953d6a401", func := "loop.example/g01035/laws.FnExactWithoutLeaf", spec := "fnExactWithoutLeaf", inPlace := ["internal/bytealg.IndexByteString", "internal/bytealg.IndexString"], unfollowed := true, recurses := true, named := ["unicode/utf8.first", "unicode/utf8.acceptRanges", "internal/bytealg.MaxLen"], apart := false, laid := [("unicode/utf8.acceptRanges", laid_unicode_utf8_acceptRanges), ("unicode/utf8.first", laid_unicode_utf8_first)], narrowed := true }
def FnExactWithoutLeafUptoSaid : Prop := fnExactWithoutLeafUptoRow.holds Tryd.pinned (OpenSpec.upto fnExactWithoutLeafSpec)

/-- 'laws.FnExactSharedPath', WHERE WHAT IT READS IS OF BULK AT MOST 1048576: true; the input reads as it did. -/
def fnExactSharedPathUptoRow : OpenClaim := { program := "ytnjgnehiclkkoaadoor", sum := "82a05ffa28459c6ba4d63008d0242abf12d8b17b8bf188e23976827953d6a401", func := "loop.example/g01035/laws.FnExactSharedPath", spec := "fnExactSharedPath", inPlace := ["internal/bytealg.IndexByteString", "internal/bytealg.IndexString"], unfollowed := true, recurses := true, named := ["unicode/utf8.first", "unicode/utf8.acceptRanges", "internal/bytealg.MaxLen"], apart := false, laid := [("unicode/utf8.acceptRanges", laid_unicode_utf8_acceptRanges), ("unicode/utf8.first", laid_unicode_utf8_first)], narrowed := true }
def FnExactSharedPathUptoSaid : Prop := fnExactSharedPathUptoRow.holds Tryd.pinned (OpenSpec.upto fnExactSharedPathSpec)

/-- 'laws.FnExactNamedPath', WHERE WHAT IT READS IS OF BULK AT MOST 1048576: true; the input reads as it did. -/
def fnExactNamedPathUptoRow : OpenClaim := { program := "ytnjgnehiclkkoaadoor", sum := "82a05ffa28459c6ba4d63008d0242abf12d8b17b8bf188e23976827953d6a401", func := "loop.example/g01035/laws.FnExactNamedPath", spec := "fnExactNamedPath", inPlace := ["internal/bytealg.IndexByteString", "internal/bytealg.IndexString", "internal/abi.NoEscape", "internal/bytealg.MakeNoZero"], unfollowed := true, recurses := true, named := ["unicode/utf8.first", "unicode/utf8.acceptRanges", "internal/bytealg.MaxLen"], apart := false, laid := [("unicode/utf8.acceptRanges", laid_unicode_utf8_acceptRanges), ("unicode/utf8.first", laid_unicode_utf8_first)], narrowed := true }
def FnExactNamedPathUptoSaid : Prop := fnExactNamedPathUptoRow.holds Tryd.pinned (OpenSpec.upto fnExactNamedPathSpec)

/-- 'laws.FnExactFindPath', WHERE WHAT IT READS IS OF BULK AT MOST 1048576: true; the input reads as it did. -/
def fnExactFindPathUptoRow : OpenClaim := { program := "ytnjgnehiclkkoaadoor", sum := "82a05ffa28459c6ba4d63008d0242abf12d8b17b8bf188e23976827953d6a401", func := "loop.example/g01035/laws.FnExactFindPath", spec := "fnExactFindPath", inPlace := ["internal/bytealg.IndexByteString", "internal/bytealg.IndexString", "internal/abi.NoEscape", "internal/bytealg.MakeNoZero"], unfollowed := true, recurses := true, named := ["unicode/utf8.first", "unicode/utf8.acceptRanges", "internal/bytealg.MaxLen"], apart := false, laid := [("unicode/utf8.acceptRanges", laid_unicode_utf8_acceptRanges), ("unicode/utf8.first", laid_unicode_utf8_first)], narrowed := true }
def FnExactFindPathUptoSaid : Prop := fnExactFindPathUptoRow.holds Tryd.pinned (OpenSpec.upto fnExactFindPathSpec)

end Rows
end Go.Proofs.YtnjgnehiclkkoaaDoor
