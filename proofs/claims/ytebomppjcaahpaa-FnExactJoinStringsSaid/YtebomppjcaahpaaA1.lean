/- Contracts of the small functions of l1_strings.go, l2_records.go and l4_schedules.go. -/
import Derived.Test.YtebomppjcaahpaaRows
import Derived.WalkKit
import Derived.WalkSpells
import Derived.WalkLawsBesides
import Derived.BigQuiet
import Derived.Deep.QuietTactic
namespace Go.Proofs.Ytebomppjcaahpaa
set_option linter.unusedVariables false
set_option linter.unusedSimpArgs false
open Go.RowKit

end Go.Proofs.Ytebomppjcaahpaa
