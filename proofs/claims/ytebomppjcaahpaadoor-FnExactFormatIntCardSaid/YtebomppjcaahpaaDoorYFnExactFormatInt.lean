/- The law of FormatInt, walked. -/
import Derived.Test.YtebomppjcaahpaaDoorW1n
namespace Go.Proofs.YtebomppjcaahpaaDoor
set_option linter.unusedVariables false
set_option linter.unusedSimpArgs false
open Go.RowKit
attribute [local go_sem] Aft.cell

set_option maxHeartbeats 400000 in
theorem walk_FnExactFormatInt (a0 : Int) (w : World) (ok0 : Rng a0) (ht : Tab w) :
    Calls Tryd.prog 3 #[.int .i64 a0] w fun e w' => e = .returned (.bool true) ∧ Below w.heap.size w w' := by
  have hS := c_spec_FormatInt a0 w
  go_enter Tryd.func3, Tryd.ntmps3
  go_wp2_with fail
  refine hS.mono ?_
  rintro e w1 ⟨rfl, hb1⟩
  have hI := c_impl_FormatInt a0 w1 ok0 (tab_below ht hb1)
  go_wp2_with fail
  refine hI.mono ?_
  rintro e w2 ⟨rfl, hb2⟩
  go_wp2_with fail
  go_ret
  exact ⟨rfl, blw hb1 hb2⟩

end Go.Proofs.YtebomppjcaahpaaDoor
