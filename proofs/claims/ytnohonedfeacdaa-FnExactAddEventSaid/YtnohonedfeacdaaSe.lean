/- Contracts of slices.Delete at structs: one element is taken out. -/
import Derived.Test.YtnohonedfeacdaaSd
namespace Go.Proofs.Ytnohonedfeacdaa
set_option linter.unusedVariables false
set_option linter.unusedSimpArgs false
open Go.RowKit
attribute [local go_sem] Aft.cell

/-- What Delete hands back: the row is the one that came in. -/
def DelS {α : Type} (w : World) (base g : Nat) (t : TypeId) (en : α → List Value) (sz cap : Nat) (l : List α) (i : Nat) (e : Ending) (w' : World) : Prop :=
  e = .returned (.slice (some ⟨g, 0, none⟩) (l.length - 1) cap) ∧ Vec w' base t en sz (.slice (some ⟨g, 0, none⟩) (l.length - 1) cap) (l.take i ++ l.drop (i + 1)) ∧ Wr (fun q => q = g) w w'





end Go.Proofs.Ytnohonedfeacdaa
