/- Contracts of the functions of l4_schedules.go that speak of one rule. -/
import Derived.Test.YtopfcfedcmpamaaDoorA1
import Derived.Test.YtopfcfedcmpamaaDoorL
namespace Go.Proofs.YtopfcfedcmpamaaDoor
set_option linter.unusedVariables false
set_option linter.unusedSimpArgs false
open Go.RowKit
attribute [local go_sem] Aft.cell

/-- a rule is valid -/
def ruleB (s e d a : Int) : Bool := (decide (1 ≤ s) && decide (s ≤ 99)) && (decide (0 ≤ e) && decide (e ≤ 9)) && (decide (0 ≤ d) && decide (d ≤ 20000)) && (decide (1 ≤ a) && decide (a ≤ 3))

set_option maxHeartbeats 400000 in
theorem isId4_any (x : Int) (w : World) :
    Calls Tryd.prog 49 #[.int .i64 x] w fun e w' => e = .returned (.bool (decide (1 ≤ x) && decide (x ≤ 99))) ∧ w = w' := by
  go_enter Tryd.func49, Tryd.ntmps49
  go_wp2_with (go_at_call 48; refine (within_any _ _ _ _).mono ?_; rintro e w' ⟨rfl, rfl⟩)
  go_ret
  exact ⟨rfl, rfl⟩

set_option maxHeartbeats 400000 in
theorem isAct_any (x : Int) (w : World) :
    Calls Tryd.prog 77 #[.int .i64 x] w fun e w' => e = .returned (.bool (decide (1 ≤ x) && decide (x ≤ 3))) ∧ w = w' := by
  go_enter Tryd.func77, Tryd.ntmps77
  go_wp2_with (go_at_call 48; refine (within_any _ _ _ _).mono ?_; rintro e w' ⟨rfl, rfl⟩)
  go_ret
  exact ⟨rfl, rfl⟩

set_option maxHeartbeats 400000 in
theorem IsRule_any (s e d a : Int) (w : World) :
    Calls Tryd.prog 61 #[.agg #[.int .i64 s, .int .i64 e, .int .i64 d, .int .i64 a]] w fun e' w' => e' = .returned (.bool (ruleB s e d a)) ∧ Below w.heap.size w w' := by
  go_enter Tryd.func61, Tryd.ntmps61
  go_wp2_with (first | (go_at_call 48; refine (within_any _ _ _ _).mono ?_; rintro e w' ⟨rfl, rfl⟩) | (go_at_call 49; refine (isId4_any _ _).mono ?_; rintro e w' ⟨rfl, rfl⟩) | (go_at_call 77; refine (isAct_any _ _).mono ?_; rintro e w' ⟨rfl, rfl⟩))
  all_goals
    go_ret
    exact ⟨by simp [ruleB, *], (Below.refl _ _).alloc (Nat.le_refl _) _⟩

set_option maxHeartbeats 400000 in
theorem l4One_any (s e d a : Int) (w : World) :
    Calls Tryd.prog 54 #[.agg #[.int .i64 s, .int .i64 e, .int .i64 d, .int .i64 a]] w fun e' w' => e' = .returned (.bool (ruleB s e d a)) ∧ Below w.heap.size w w' := by
  go_enter Tryd.func54, Tryd.ntmps54
  go_wp2_with (first | (go_at_call 41; refine (l1In_any _ _ _ _).mono ?_; rintro e w' ⟨rfl, rfl⟩))
  all_goals
    go_ret
    exact ⟨by simp [ruleB, *], (Below.refl _ _).alloc (Nat.le_refl _) _⟩


set_option maxHeartbeats 400000 in
theorem toRule_any (s e d a : Int) (w : World) :
    Calls Tryd.prog 40 #[.agg #[.int .i64 s, .int .i64 e, .int .i64 d, .int .i64 a]] w fun e' w' => e' = .returned (.agg #[.int .i64 s, .int .i64 e, .int .i64 d, .int .i64 a]) ∧ Below w.heap.size w w' := by
  go_enter Tryd.func40, Tryd.ntmps40
  go_wp2
  refine bodyPost_ret (v := .agg #[.int .i64 s, .int .i64 e, .int .i64 d, .int .i64 a]) (by simp [results, Tryd.results40, go_sem]) rfl ⟨rfl, ?_⟩
  exact blw_alloc (blw_alloc (blw_alloc (Below.refl _ _) _) _) _

end Go.Proofs.YtopfcfedcmpamaaDoor
