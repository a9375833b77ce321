/- Contracts of the functions that pick the rules for a series. -/
import Derived.Test.YtopfcfedcmpamaaDoorW4b
namespace Go.Proofs.YtopfcfedcmpamaaDoor
set_option linter.unusedVariables false
set_option linter.unusedSimpArgs false
open Go.RowKit
attribute [local go_sem] Aft.cell



def isIdB (s : Int) : Bool := decide (1 ≤ s) && decide (s ≤ 99)
/-- what RulesFor hands back -/
def rulesForL (l : List RuleD) (s : Int) : List RuleD := if (schedB l && isIdB s) = true then forS l s else []
theorem rulesForL_le (l : List RuleD) (s : Int) : (rulesForL l s).length ≤ l.length := by
  unfold rulesForL forS
  split
  · exact List.length_filter_le _ _
  · simp



end Go.Proofs.YtopfcfedcmpamaaDoor
