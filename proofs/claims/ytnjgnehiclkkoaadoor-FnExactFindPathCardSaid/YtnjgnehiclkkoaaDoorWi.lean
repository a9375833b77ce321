/- A number within bounds. -/
import Derived.Test.YtnjgnehiclkkoaaDoorA1
import Derived.Test.YtnjgnehiclkkoaaDoorL
namespace Go.Proofs.YtnjgnehiclkkoaaDoor
set_option linter.unusedVariables false
set_option linter.unusedSimpArgs false
open Go.RowKit
attribute [local go_sem] Aft.cell

def inB (x a b : Int) : Bool := decide (a ≤ x) && decide (x ≤ b)

set_option maxHeartbeats 400000 in
theorem isId5_any (x : Int) (w : World) :
    Calls Tryd.prog 54 #[.int .i64 x] w fun e w' => e = .returned (.bool (inB x 1 99)) ∧ w = w' := by
  go_enter Tryd.func54, Tryd.ntmps54
  go_wp2_with (go_at_call 55; refine (within_any _ _ _ _).mono ?_; rintro e w' ⟨rfl, rfl⟩)
  go_ret
  exact ⟨rfl, rfl⟩

theorem within5_any (x a b : Int) (w : World) : Calls Tryd.prog 55 #[.int .i64 x, .int .i64 a, .int .i64 b] w fun e w' => e = .returned (.bool (inB x a b)) ∧ w = w' := within_any x a b w

theorem l1In5_any (x a b : Int) (w : World) : Calls Tryd.prog 52 #[.int .i64 x, .int .i64 a, .int .i64 b] w fun e w' => e = .returned (.bool (inB x a b)) ∧ w = w' := l1In_any x a b w

end Go.Proofs.YtnjgnehiclkkoaaDoor
