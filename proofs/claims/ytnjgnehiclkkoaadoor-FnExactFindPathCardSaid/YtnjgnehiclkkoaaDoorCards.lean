/-
  DERIVED. GIVEN WITH THE SEED: THE CARDS: each row of YtnjgnehiclkkoaaDoorRows.lean that lists a variable, with what it lists TIED to the program's text (the seventh form; the later family's looks); each row that meets fmt, with fmt's text TOLD by the authors' own Lean function (tested against real Go, not proved from fmt's source: count such statements apart). THE CARD IS WHAT COUNTS. Prove the row's statement (the work); the ties are given (YtnjgnehiclkkoaaDoorTie.lean); close each card by the builder's one call (the guide's Derived/Test/ToyasCard.lean, 'card_holds'). Laid BY PROGRAM, IN A SANDBOX (cutbox-door.mjs). By AI agents, Wed Nov 11 2026. No macro, syntax, notation, axiom, sorry.
-/
import Derived.Test.YtnjgnehiclkkoaaDoorRows
import GoSem.ClaimSeven
namespace Go.Proofs.YtnjgnehiclkkoaaDoor
namespace Rows

/-- THE TIED CARD OF 'laws.FnExactAddFunction'. -/
def fnExactAddFunctionCard : Claim7 := { stood := { row := fnExactAddFunctionRow, standIns := [], harness := (true, "629565bf32e3a9f9518c6bbaaace605472ec22700386609a5fe393555333b665"), looks := false }, kinds := [], alts := [], laidByText := true, laidKinds := [.data, .pinned], laidTests := true, laidLooks := .later }
def FnExactAddFunctionCardSaid : Prop := Claim7.holds Tryd.pinned (.plain (OpenSpec.ofChange fnExactAddFunctionSpec)) fnExactAddFunctionCard

/-- THE TIED CARD OF 'laws.FnExactMoveUnder'. -/
def fnExactMoveUnderCard : Claim7 := { stood := { row := fnExactMoveUnderRow, standIns := [], harness := (true, "629565bf32e3a9f9518c6bbaaace605472ec22700386609a5fe393555333b665"), looks := false }, kinds := [], alts := [], laidByText := true, laidKinds := [.data, .pinned], laidTests := true, laidLooks := .later }
def FnExactMoveUnderCardSaid : Prop := Claim7.holds Tryd.pinned (.plain (OpenSpec.ofChange fnExactMoveUnderSpec)) fnExactMoveUnderCard

/-- THE TIED CARD OF 'laws.FnExactWithoutLeaf'. -/
def fnExactWithoutLeafCard : Claim7 := { stood := { row := fnExactWithoutLeafRow, standIns := [], harness := (true, "629565bf32e3a9f9518c6bbaaace605472ec22700386609a5fe393555333b665"), looks := false }, kinds := [], alts := [], laidByText := true, laidKinds := [.data, .pinned], laidTests := true, laidLooks := .later }
def FnExactWithoutLeafCardSaid : Prop := Claim7.holds Tryd.pinned (.plain (OpenSpec.ofChange fnExactWithoutLeafSpec)) fnExactWithoutLeafCard

/-- THE TIED CARD OF 'laws.FnExactSharedPath'. -/
def fnExactSharedPathCard : Claim7 := { stood := { row := fnExactSharedPathRow, standIns := [], harness := (true, "629565bf32e3a9f9518c6bbaaace605472ec22700386609a5fe393555333b665"), looks := false }, kinds := [], alts := [], laidByText := true, laidKinds := [.data, .pinned], laidTests := true, laidLooks := .later }
def FnExactSharedPathCardSaid : Prop := Claim7.holds Tryd.pinned (.plain (OpenSpec.ofChange fnExactSharedPathSpec)) fnExactSharedPathCard

/-- THE TIED CARD OF 'laws.FnExactNamedPath'. -/
def fnExactNamedPathCard : Claim7 := { stood := { row := fnExactNamedPathRow, standIns := [], harness := (true, "629565bf32e3a9f9518c6bbaaace605472ec22700386609a5fe393555333b665"), looks := false }, kinds := [], alts := [], laidByText := true, laidKinds := [.data, .pinned], laidTests := true, laidLooks := .later }
def FnExactNamedPathCardSaid : Prop := Claim7.holds Tryd.pinned (.plain (OpenSpec.ofChange fnExactNamedPathSpec)) fnExactNamedPathCard

/-- THE TIED CARD OF 'laws.FnExactFindPath'. -/
def fnExactFindPathCard : Claim7 := { stood := { row := fnExactFindPathRow, standIns := [], harness := (true, "629565bf32e3a9f9518c6bbaaace605472ec22700386609a5fe393555333b665"), looks := false }, kinds := [], alts := [], laidByText := true, laidKinds := [.data, .pinned], laidTests := true, laidLooks := .later }
def FnExactFindPathCardSaid : Prop := Claim7.holds Tryd.pinned (.plain (OpenSpec.ofChange fnExactFindPathSpec)) fnExactFindPathCard

/-- THE SECOND FORM's CARD OF 'laws.FnExactAddFunction'. -/
def fnExactAddFunctionUptoCard : Claim7 := { stood := { row := fnExactAddFunctionUptoRow, standIns := [], harness := (true, "629565bf32e3a9f9518c6bbaaace605472ec22700386609a5fe393555333b665"), looks := false }, kinds := [], alts := [], laidByText := true, laidKinds := [.data, .pinned], laidTests := true, laidLooks := .later }
def FnExactAddFunctionUptoCardSaid : Prop := Claim7.holds Tryd.pinned (.plain (OpenSpec.upto fnExactAddFunctionSpec)) fnExactAddFunctionUptoCard

/-- THE SECOND FORM's CARD OF 'laws.FnExactMoveUnder'. -/
def fnExactMoveUnderUptoCard : Claim7 := { stood := { row := fnExactMoveUnderUptoRow, standIns := [], harness := (true, "629565bf32e3a9f9518c6bbaaace605472ec22700386609a5fe393555333b665"), looks := false }, kinds := [], alts := [], laidByText := true, laidKinds := [.data, .pinned], laidTests := true, laidLooks := .later }
def FnExactMoveUnderUptoCardSaid : Prop := Claim7.holds Tryd.pinned (.plain (OpenSpec.upto fnExactMoveUnderSpec)) fnExactMoveUnderUptoCard

/-- THE SECOND FORM's CARD OF 'laws.FnExactWithoutLeaf'. -/
def fnExactWithoutLeafUptoCard : Claim7 := { stood := { row := fnExactWithoutLeafUptoRow, standIns := [], harness := (true, "629565bf32e3a9f9518c6bbaaace605472ec22700386609a5fe393555333b665"), looks := false }, kinds := [], alts := [], laidByText := true, laidKinds := [.data, .pinned], laidTests := true, laidLooks := .later }
def FnExactWithoutLeafUptoCardSaid : Prop := Claim7.holds Tryd.pinned (.plain (OpenSpec.upto fnExactWithoutLeafSpec)) fnExactWithoutLeafUptoCard

/-- THE SECOND FORM's CARD OF 'laws.FnExactSharedPath'. -/
def fnExactSharedPathUptoCard : Claim7 := { stood := { row := fnExactSharedPathUptoRow, standIns := [], harness := (true, "629565bf32e3a9f9518c6bbaaace605472ec22700386609a5fe393555333b665"), looks := false }, kinds := [], alts := [], laidByText := true, laidKinds := [.data, .pinned], laidTests := true, laidLooks := .later }
def FnExactSharedPathUptoCardSaid : Prop := Claim7.holds Tryd.pinned (.plain (OpenSpec.upto fnExactSharedPathSpec)) fnExactSharedPathUptoCard

/-- THE SECOND FORM's CARD OF 'laws.FnExactNamedPath'. -/
def fnExactNamedPathUptoCard : Claim7 := { stood := { row := fnExactNamedPathUptoRow, standIns := [], harness := (true, "629565bf32e3a9f9518c6bbaaace605472ec22700386609a5fe393555333b665"), looks := false }, kinds := [], alts := [], laidByText := true, laidKinds := [.data, .pinned], laidTests := true, laidLooks := .later }
def FnExactNamedPathUptoCardSaid : Prop := Claim7.holds Tryd.pinned (.plain (OpenSpec.upto fnExactNamedPathSpec)) fnExactNamedPathUptoCard

/-- THE SECOND FORM's CARD OF 'laws.FnExactFindPath'. -/
def fnExactFindPathUptoCard : Claim7 := { stood := { row := fnExactFindPathUptoRow, standIns := [], harness := (true, "629565bf32e3a9f9518c6bbaaace605472ec22700386609a5fe393555333b665"), looks := false }, kinds := [], alts := [], laidByText := true, laidKinds := [.data, .pinned], laidTests := true, laidLooks := .later }
def FnExactFindPathUptoCardSaid : Prop := Claim7.holds Tryd.pinned (.plain (OpenSpec.upto fnExactFindPathSpec)) fnExactFindPathUptoCard
end Rows
end Go.Proofs.YtnjgnehiclkkoaaDoor
