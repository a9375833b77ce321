/- The law of FindPath, walked. -/
import Derived.Test.YtnjgnehiclkkoaaDoorW3n
import Derived.Deep.RegionHeld3
namespace Go.Proofs.YtnjgnehiclkkoaaDoor
set_option linter.unusedVariables false
set_option linter.unusedSimpArgs false
open Go.RowKit
attribute [local go_sem] Aft.cell

set_option maxHeartbeats 4000000 in
theorem walk_FnExactFindPath (A0 : Option Addr) (c0 : Nat) (a0 : List FnD) (a1 : ByteArray) (w : World) (ok0 : okSl w encFn 3 okFn A0 a0) (ok1 : a1.size ≤ maxLen) :
    Calls Tryd.prog 8 #[.slice A0 a0.length c0, .string a1] w fun e w' => e = .returned (.bool true) ∧ Below w.heap.size w w' := by
  obtain ⟨hl0, hok0, hmx0⟩ := ok0
  have hst1 : a1.size ≤ 9223372036854775807 := by unfold maxLen at ok1; omega
  by_cases hsz1 : ¬ a1.size ≤ 1048576
  · have hsq1 : (1048576 : Int) < (a1.size : Int) := by omega
    go_enter Tryd.func8, Tryd.ntmps8
    go_wp2_with fail
    go_ret
    exact ⟨rfl, Below.refl _ _⟩
  replace hsz1 : a1.size ≤ 1048576 := Decidable.not_not.1 hsz1
  go_enter Tryd.func8, Tryd.ntmps8
  have h0 : Below w.heap.size w w := Below.refl _ _
  go_wp2_with fail
  refine (szFunctionS_sz _ _ a0 _ _ ((hl0.below h0).more h0.size) hmx0 hok0 (by omega) (by omega)).mono ?_
  rintro e w1 ⟨r1, rfl, hra1, hrb1, hrp1, hb1⟩
  have h1 := blw h0 hb1
  have z1 := hb1.size
  by_cases hneg1 : r1 < 0
  · clear hrp1
    go_wp2_with fail
    go_ret
    exact ⟨rfl, h1⟩
  have hn0 := hrp1 (by omega)
  clear hrp1
  have hnn1 : ¬ r1 < 0 := hneg1
  obtain ⟨hn0, hne0⟩ := hn0
  have Hne0 := Lib.hid hne0
  clear hne0
  go_wp2_with fail
  refine (toFunctionS_any _ _ a0 _ ((hl0.below h1).more h1.size) hn0).mono ?_
  rintro e w2 ⟨g_s0, gl_s0, rfl, o_s0, hb2⟩
  have h2 := blw h1 hb2
  have z2 := hb2.size
  have y_s0 := o_s0.lt
  go_wp2_with fail
  refine (c_spec_FindPath _ _ a0 _ _ (o_s0.ls encFn_len) hn0 Hne0.out (Nat.le_refl _) hsz1).mono ?_
  rintro e w3 ⟨rfl, hb3⟩
  have h3 := blw h2 hb3
  have z3 := hb3.size
  replace o_s0 := o_s0.below hb3 o_s0.lt
  go_wp2_with fail
  refine (toFunctionS_any _ _ a0 _ ((hl0.below h3).more h3.size) hn0).mono ?_
  rintro e w4 ⟨g_x0, gl_x0, rfl, o_x0, hb4⟩
  have h4 := blw h3 hb4
  have z4 := hb4.size
  have y_x0 := o_x0.lt
  go_wp2_with fail
  refine (c_impl_FindPath _ _ a0 _ _ (o_x0.ls encFn_len) hn0 Hne0.out (Nat.le_refl _) hsz1).mono ?_
  rintro e w5 ⟨rfl, hb5⟩
  have h5 := blw h4 hb5
  have z5 := hb5.size
  replace o_x0 := o_x0.below hb5 o_x0.lt
  go_wp2_with fail
  refine (toFunctionS_any _ _ a0 _ ((hl0.below h5).more h5.size) hn0).mono ?_
  rintro e w6 ⟨g_t0, gl_t0, rfl, o_t0, hb6⟩
  have h6 := blw h5 hb6
  have z6 := hb6.size
  replace o_x0 := o_x0.below hb6 o_x0.lt
  have y_t0 := o_t0.lt
  go_wp2_with fail
  refine (eqFunctionS_any _ _ _ _ a0 _ (o_x0.ls encFn_len) (o_t0.ls encFn_len) (by omega)).mono ?_
  rintro e w7 ⟨rfl, hb7⟩
  have h7 := blw h6 hb7
  have z7 := hb7.size
  replace o_x0 := o_x0.below hb7 o_x0.lt
  replace o_t0 := o_t0.below hb7 o_t0.lt
  go_wp2_with fail
  go_ret
  exact ⟨rfl, h7⟩

end Go.Proofs.YtnjgnehiclkkoaaDoor
