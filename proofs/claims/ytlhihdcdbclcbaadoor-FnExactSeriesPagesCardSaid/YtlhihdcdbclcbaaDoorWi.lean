/- A number within bounds. -/
import Derived.Test.YtlhihdcdbclcbaaDoorA1
import Derived.Test.YtlhihdcdbclcbaaDoorL
namespace Go.Proofs.YtlhihdcdbclcbaaDoor
set_option linter.unusedVariables false
set_option linter.unusedSimpArgs false
open Go.RowKit
attribute [local go_sem] Aft.cell

def inB (x a b : Int) : Bool := decide (a ≤ x) && decide (x ≤ b)

set_option maxHeartbeats 400000 in
theorem isId5_any (x : Int) (w : World) :
    Calls Tryd.prog 53 #[.int .i64 x] w fun e w' => e = .returned (.bool (inB x 1 99)) ∧ w = w' := by
  go_enter Tryd.func53, Tryd.ntmps53
  go_wp2_with (go_at_call 36; refine (within_any _ _ _ _).mono ?_; rintro e w' ⟨rfl, rfl⟩)
  go_ret
  exact ⟨rfl, rfl⟩

theorem within5_any (x a b : Int) (w : World) : Calls Tryd.prog 36 #[.int .i64 x, .int .i64 a, .int .i64 b] w fun e w' => e = .returned (.bool (inB x a b)) ∧ w = w' := within_any x a b w

theorem isDay5_any (x : Int) (w : World) : Calls Tryd.prog 50 #[.int .i64 x] w fun e w' => e = .returned (.bool (inB x 0 20000)) ∧ w = w' := isDay_any x w

theorem l1In5_any (x a b : Int) (w : World) : Calls Tryd.prog 34 #[.int .i64 x, .int .i64 a, .int .i64 b] w fun e w' => e = .returned (.bool (inB x a b)) ∧ w = w' := l1In_any x a b w

theorem l2Day5_any (x : Int) (w : World) : Calls Tryd.prog 38 #[.int .i64 x] w fun e w' => e = .returned (.bool (inB x 0 20000)) ∧ w = w' := l2Day_any x w

end Go.Proofs.YtlhihdcdbclcbaaDoor
