/-
  DERIVED. GIVEN WITH THE SEED: THE CARDS: each row of YtlhihdcdbclcbaaDoorRows.lean that lists a variable, with what it lists TIED to the program's text (the seventh form; the later family's looks); each row that meets fmt, with fmt's text TOLD by the authors' own Lean function (tested against real Go, not proved from fmt's source: count such statements apart). THE CARD IS WHAT COUNTS. Prove the row's statement (the work); the ties are given (YtlhihdcdbclcbaaDoorTie.lean); close each card by the builder's one call (the guide's Derived/Test/ToyasCard.lean, 'card_holds'). Laid BY PROGRAM, IN A SANDBOX (cutbox-door.mjs). By AI agents, Wed Nov 11 2026. No macro, syntax, notation, axiom, sorry.
-/
import Derived.Test.YtlhihdcdbclcbaaDoorRows
import GoSem.ClaimSeven
namespace Go.Proofs.YtlhihdcdbclcbaaDoor
namespace Rows

/-- THE TIED CARD OF 'laws.FnExactSeriesPages'. -/
def fnExactSeriesPagesCard : Claim7 := { stood := { row := fnExactSeriesPagesRow, standIns := [], harness := (true, "c6192a0d20b4cd71ba424fee3cd2db15a526df11c804f11e793106e0459dec79"), looks := false }, kinds := [], alts := [], laidByText := true, laidKinds := [.data, .pinned], laidTests := true, laidLooks := .later }
def FnExactSeriesPagesCardSaid : Prop := Claim7.holds Tryd.pinned (.plain (OpenSpec.ofChange fnExactSeriesPagesSpec)) fnExactSeriesPagesCard

/-- THE TIED CARD OF 'laws.FnExactSplitFile'. -/
def fnExactSplitFileCard : Claim7 := { stood := { row := fnExactSplitFileRow, standIns := [], harness := (true, "c6192a0d20b4cd71ba424fee3cd2db15a526df11c804f11e793106e0459dec79"), looks := false }, kinds := [], alts := [], laidByText := true, laidKinds := [.data, .pinned], laidTests := true, laidLooks := .later }
def FnExactSplitFileCardSaid : Prop := Claim7.holds Tryd.pinned (.plain (OpenSpec.ofChange fnExactSplitFileSpec)) fnExactSplitFileCard

/-- THE TIED CARD OF 'laws.FnExactClosedSince'. -/
def fnExactClosedSinceCard : Claim7 := { stood := { row := fnExactClosedSinceRow, standIns := [], harness := (true, "c6192a0d20b4cd71ba424fee3cd2db15a526df11c804f11e793106e0459dec79"), looks := false }, kinds := [], alts := [], laidByText := true, laidKinds := [.data, .pinned], laidTests := true, laidLooks := .later }
def FnExactClosedSinceCardSaid : Prop := Claim7.holds Tryd.pinned (.plain (OpenSpec.ofChange fnExactClosedSinceSpec)) fnExactClosedSinceCard

/-- THE SECOND FORM's CARD OF 'laws.FnExactSeriesPages'. -/
def fnExactSeriesPagesUptoCard : Claim7 := { stood := { row := fnExactSeriesPagesUptoRow, standIns := [], harness := (true, "c6192a0d20b4cd71ba424fee3cd2db15a526df11c804f11e793106e0459dec79"), looks := false }, kinds := [], alts := [], laidByText := true, laidKinds := [.data, .pinned], laidTests := true, laidLooks := .later }
def FnExactSeriesPagesUptoCardSaid : Prop := Claim7.holds Tryd.pinned (.plain (OpenSpec.upto fnExactSeriesPagesSpec)) fnExactSeriesPagesUptoCard

/-- THE SECOND FORM's CARD OF 'laws.FnExactSplitFile'. -/
def fnExactSplitFileUptoCard : Claim7 := { stood := { row := fnExactSplitFileUptoRow, standIns := [], harness := (true, "c6192a0d20b4cd71ba424fee3cd2db15a526df11c804f11e793106e0459dec79"), looks := false }, kinds := [], alts := [], laidByText := true, laidKinds := [.data, .pinned], laidTests := true, laidLooks := .later }
def FnExactSplitFileUptoCardSaid : Prop := Claim7.holds Tryd.pinned (.plain (OpenSpec.upto fnExactSplitFileSpec)) fnExactSplitFileUptoCard

/-- THE SECOND FORM's CARD OF 'laws.FnExactClosedSince'. -/
def fnExactClosedSinceUptoCard : Claim7 := { stood := { row := fnExactClosedSinceUptoRow, standIns := [], harness := (true, "c6192a0d20b4cd71ba424fee3cd2db15a526df11c804f11e793106e0459dec79"), looks := false }, kinds := [], alts := [], laidByText := true, laidKinds := [.data, .pinned], laidTests := true, laidLooks := .later }
def FnExactClosedSinceUptoCardSaid : Prop := Claim7.holds Tryd.pinned (.plain (OpenSpec.upto fnExactClosedSinceSpec)) fnExactClosedSinceUptoCard
end Rows
end Go.Proofs.YtlhihdcdbclcbaaDoor
