/- Contracts: PathTo. -/
import Derived.Test.YtnjgnehiclkkoaaDoorW3p
namespace Go.Proofs.YtnjgnehiclkkoaaDoor
set_option linter.unusedVariables false
set_option linter.unusedSimpArgs false
open Go.RowKit
attribute [local go_sem] Aft.cell

def pthB (l : List FnD) (id : Int) : Bool := treeB l && hasF l id
def pthL (l : List FnD) (id : Int) : List Int := if pthB l id then pathF l id else []
theorem pthL_le (l : List FnD) (id : Int) : (pthL l id).length ≤ 99 := by
  unfold pthL
  split
  · next h =>
    simp only [pthB, Bool.and_eq_true] at h
    exact pathF_len h.1 h.2
  · simp


end Go.Proofs.YtnjgnehiclkkoaaDoor
