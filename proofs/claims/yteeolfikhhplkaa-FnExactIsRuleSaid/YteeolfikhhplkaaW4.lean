/- Contracts of the functions of l4_schedules.go that speak of one rule. -/
import Derived.Test.YteeolfikhhplkaaA1
import Derived.Test.YteeolfikhhplkaaL
namespace Go.Proofs.Yteeolfikhhplkaa
set_option linter.unusedVariables false
set_option linter.unusedSimpArgs false
open Go.RowKit
attribute [local go_sem] Aft.cell

/-- a rule is valid -/
def ruleB (s e d a : Int) : Bool := (decide (1 ≤ s) && decide (s ≤ 99)) && (decide (0 ≤ e) && decide (e ≤ 9)) && (decide (0 ≤ d) && decide (d ≤ 20000)) && (decide (1 ≤ a) && decide (a ≤ 3))

set_option maxHeartbeats 400000 in
theorem isId4_any (x : Int) (w : World) :
    Calls Try.prog 28 #[.int .i64 x] w fun e w' => e = .returned (.bool (decide (1 ≤ x) && decide (x ≤ 99))) ∧ w = w' := by
  go_enter Try.func28, Try.ntmps28
  go_wp2_with (go_at_call 25; refine (within_any _ _ _ _).mono ?_; rintro e w' ⟨rfl, rfl⟩)
  go_ret
  exact ⟨rfl, rfl⟩

set_option maxHeartbeats 400000 in
theorem isAct_any (x : Int) (w : World) :
    Calls Try.prog 29 #[.int .i64 x] w fun e w' => e = .returned (.bool (decide (1 ≤ x) && decide (x ≤ 3))) ∧ w = w' := by
  go_enter Try.func29, Try.ntmps29
  go_wp2_with (go_at_call 25; refine (within_any _ _ _ _).mono ?_; rintro e w' ⟨rfl, rfl⟩)
  go_ret
  exact ⟨rfl, rfl⟩

set_option maxHeartbeats 400000 in
theorem IsRule_any (s e d a : Int) (w : World) :
    Calls Try.prog 16 #[.agg #[.int .i64 s, .int .i64 e, .int .i64 d, .int .i64 a]] w fun e' w' => e' = .returned (.bool (ruleB s e d a)) ∧ Below w.heap.size w w' := by
  go_enter Try.func16, Try.ntmps16
  go_wp2_with (first | (go_at_call 25; refine (within_any _ _ _ _).mono ?_; rintro e w' ⟨rfl, rfl⟩) | (go_at_call 28; refine (isId4_any _ _).mono ?_; rintro e w' ⟨rfl, rfl⟩) | (go_at_call 29; refine (isAct_any _ _).mono ?_; rintro e w' ⟨rfl, rfl⟩))
  all_goals
    go_ret
    exact ⟨by simp [ruleB, *], (Below.refl _ _).alloc (Nat.le_refl _) _⟩

set_option maxHeartbeats 400000 in
theorem l4One_any (s e d a : Int) (w : World) :
    Calls Try.prog 27 #[.agg #[.int .i64 s, .int .i64 e, .int .i64 d, .int .i64 a]] w fun e' w' => e' = .returned (.bool (ruleB s e d a)) ∧ Below w.heap.size w w' := by
  go_enter Try.func27, Try.ntmps27
  go_wp2_with (first | (go_at_call 36; refine (l1In_any _ _ _ _).mono ?_; rintro e w' ⟨rfl, rfl⟩))
  all_goals
    go_ret
    exact ⟨by simp [ruleB, *], (Below.refl _ _).alloc (Nat.le_refl _) _⟩

set_option maxHeartbeats 400000 in
theorem specIsRule_any (s e d a : Int) (w : World) :
    Calls Try.prog 14 #[.agg #[.int .i64 s, .int .i64 e, .int .i64 d, .int .i64 a]] w fun e' w' => e' = .returned (.bool (ruleB s e d a)) ∧ Below w.heap.size w w' := by
  go_enter Try.func14, Try.ntmps14
  go_wp2_with (go_at_call 27; refine (l4One_any _ _ _ _ _).mono ?_; rintro e w1 ⟨rfl, hb1⟩)
  go_ret
  exact ⟨rfl, blw (blw_alloc (Below.refl _ _) _) hb1⟩

set_option maxHeartbeats 400000 in
theorem toRule_any (s e d a : Int) (w : World) :
    Calls Try.prog 15 #[.agg #[.int .i64 s, .int .i64 e, .int .i64 d, .int .i64 a]] w fun e' w' => e' = .returned (.agg #[.int .i64 s, .int .i64 e, .int .i64 d, .int .i64 a]) ∧ Below w.heap.size w w' := by
  go_enter Try.func15, Try.ntmps15
  go_wp2
  refine bodyPost_ret (v := .agg #[.int .i64 s, .int .i64 e, .int .i64 d, .int .i64 a]) (by simp [results, Try.results15, go_sem]) rfl ⟨rfl, ?_⟩
  exact blw_alloc (blw_alloc (blw_alloc (Below.refl _ _) _) _) _

end Go.Proofs.Yteeolfikhhplkaa
