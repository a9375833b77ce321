/- The law of VerifyChecksum, walked. -/
import Derived.Test.YtebomppjcaahpaaDoorW1u
namespace Go.Proofs.YtebomppjcaahpaaDoor
set_option linter.unusedVariables false
set_option linter.unusedSimpArgs false
open Go.RowKit
attribute [local go_sem] Aft.cell

set_option maxHeartbeats 400000 in
theorem walk_FnExactVerifyChecksum (a0 : ByteArray) (w : World) (ok0 : a0.size ≤ maxLen) (ht : Tab w) (hm : Ml w) :
    Calls Tryd.prog 7 #[.string a0] w fun e w' => e = .returned (.bool true) ∧ Below w.heap.size w w' := by
  unfold maxLen at ok0
  by_cases hs : a0.size ≤ 1048576
  · have hS := c_spec_VerifyChecksum a0 w (by omega)
    go_enter Tryd.func7, Tryd.ntmps7
    go_wp2_with fail
    refine hS.mono ?_
    rintro e w1 ⟨rfl, hb1⟩
    have hI := c_impl_VerifyChecksum a0 w1 hs (tab_below ht hb1) (ml_below hm hb1)
    go_wp2_with fail
    refine hI.mono ?_
    rintro e w2 ⟨rfl, hb2⟩
    go_wp2_with fail
    go_ret
    exact ⟨rfl, blw hb1 hb2⟩
  · have hs2 : 1048576 < a0.size := by omega
    go_enter Tryd.func7, Tryd.ntmps7
    go_wp2_with fail
    go_ret
    exact ⟨rfl, Below.refl _ _⟩

end Go.Proofs.YtebomppjcaahpaaDoor
