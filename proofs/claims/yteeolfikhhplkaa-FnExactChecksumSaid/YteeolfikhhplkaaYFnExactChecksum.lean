/- The law of Checksum, walked. -/
import Derived.Test.YteeolfikhhplkaaW1c
namespace Go.Proofs.Yteeolfikhhplkaa
set_option linter.unusedVariables false
set_option linter.unusedSimpArgs false
open Go.RowKit

set_option maxHeartbeats 400000 in
theorem walk_FnExactChecksum (a : ByteArray) (w : World) (ha : a.size ≤ maxLen) :
    Calls Try.prog 7 #[.string a] w fun e w' => e = .returned (.bool true) ∧ Below w.heap.size w w' := by
  unfold maxLen at ha
  go_enter Try.func7, Try.ntmps7
  go_wp2_with (first | (go_at_call 17; refine (specChecksum_any _ _ (by omega)).mono ?_; rintro e w1 ⟨rfl, rfl⟩) | (go_at_call 18; refine (Checksum_any _ _ (by omega)).mono ?_; rintro e w1 ⟨rfl, rfl⟩))
  all_goals
    go_ret
    exact ⟨rfl, Below.refl _ _⟩

end Go.Proofs.Yteeolfikhhplkaa
