/- The law of ScheduleText, walked. -/
import Derived.Test.YtopfcfedcmpamaaDoorW4u
import Derived.Deep.RegionHeld3
namespace Go.Proofs.YtopfcfedcmpamaaDoor
set_option linter.unusedVariables false
set_option linter.unusedSimpArgs false
open Go.RowKit
attribute [local go_sem] Aft.cell

set_option maxHeartbeats 4000000 in
theorem walk_FnExactScheduleText (A0 : Option Addr) (c0 : Nat) (a0 : List RuleD) (w : World) (ok0 : okSl w encRule 4 okRule A0 a0) (ht : Tab w) :
    Calls Tryd.prog 5 #[.slice A0 a0.length c0] w fun e w' => e = .returned (.bool true) ∧ Below w.heap.size w w' := by
  obtain ⟨hl0, hok0, hmx0⟩ := ok0
  go_enter Tryd.func5, Tryd.ntmps5
  have h0 : Below w.heap.size w w := Below.refl _ _
  go_wp2_with fail
  refine (szRuleS_sz _ _ _ _ _ hmx0 (by omega) (by omega)).mono ?_
  rintro e w1 ⟨r1, rfl, hra1, hrb1, hrp1, hb1⟩
  have h1 := blw h0 hb1
  have z1 := hb1.size
  by_cases hneg1 : r1 < 0
  · clear hrp1
    go_wp2_with fail
    go_ret
    exact ⟨rfl, h1⟩
  have hn0 := hrp1 (by omega)
  clear hrp1
  have hnn1 : ¬ r1 < 0 := hneg1
  go_wp2_with fail
  refine (toRuleS_any _ _ a0 _ ((hl0.below h1).more h1.size) hn0).mono ?_
  rintro e w2 ⟨g_s0, gl_s0, rfl, o_s0, hb2⟩
  have h2 := blw h1 hb2
  have z2 := hb2.size
  have y_s0 := o_s0.lt
  go_wp2_with fail
  refine (c_spec_ScheduleText _ _ a0 _ (o_s0.ls encRule_len) hn0).mono ?_
  rintro e w3 ⟨rfl, hb3⟩
  have h3 := blw h2 hb3
  have z3 := hb3.size
  replace o_s0 := o_s0.below hb3 o_s0.lt
  go_wp2_with fail
  refine (toRuleS_any _ _ a0 _ ((hl0.below h3).more h3.size) hn0).mono ?_
  rintro e w4 ⟨g_x0, gl_x0, rfl, o_x0, hb4⟩
  have h4 := blw h3 hb4
  have z4 := hb4.size
  have y_x0 := o_x0.lt
  go_wp2_with fail
  refine (c_impl_ScheduleText _ _ a0 _ (o_x0.ls encRule_len) hn0 (tab_below ht h4)).mono ?_
  rintro e w5 ⟨rfl, hb5⟩
  have h5 := blw h4 hb5
  have z5 := hb5.size
  replace o_x0 := o_x0.below hb5 o_x0.lt
  go_wp2_with fail
  refine (toRuleS_any _ _ a0 _ ((hl0.below h5).more h5.size) hn0).mono ?_
  rintro e w6 ⟨g_t0, gl_t0, rfl, o_t0, hb6⟩
  have h6 := blw h5 hb6
  have z6 := hb6.size
  replace o_x0 := o_x0.below hb6 o_x0.lt
  have y_t0 := o_t0.lt
  go_wp2_with fail
  refine (eqRuleS_any _ _ _ _ a0 _ (o_x0.ls encRule_len) (o_t0.ls encRule_len) (by omega)).mono ?_
  rintro e w7 ⟨rfl, hb7⟩
  have h7 := blw h6 hb7
  have z7 := hb7.size
  replace o_x0 := o_x0.below hb7 o_x0.lt
  replace o_t0 := o_t0.below hb7 o_t0.lt
  go_wp2_with fail
  go_ret
  exact ⟨rfl, h7⟩

end Go.Proofs.YtopfcfedcmpamaaDoor
