/- The law of IsTree, walked. -/
import Derived.Test.YtainmendkigofaaDoorW3d
namespace Go.Proofs.YtainmendkigofaaDoor
set_option linter.unusedVariables false
set_option linter.unusedSimpArgs false
open Go.RowKit
attribute [local go_sem] Aft.cell

set_option maxHeartbeats 400000 in
theorem c_spec_IsTree (A : Option Addr) (c : Nat) (l : List FnD) (w : World) (hl : Ls w w.heap.size encFn 3 A l) (hm : l.length ≤ 1048576) (hnm : ∀ f ∈ l, f.name.size ≤ 1048576) (hcap : l.length ≤ c) :
    Calls Tryd.prog 14 #[.slice A l.length c] w fun e w' => e = .returned (.bool (treeB l)) ∧ Below w.heap.size w w' := by
  go_enter Tryd.func14, Tryd.ntmps14
  go_wp2_with (go_at_call 42; refine (l3Good_any _ _ l _ hl hm hnm hcap).mono ?_; rintro e w1 ⟨rfl, hb1⟩)
  go_ret
  exact ⟨rfl, hb1⟩

set_option maxHeartbeats 1000000 in
theorem walk_FnExactIsTree (A0 : Option Addr) (c0 : Nat) (a0 : List FnD) (w : World) (ok0 : okSl w encFn 3 okFn A0 a0) :
    Calls Tryd.prog 3 #[.slice A0 a0.length c0] w fun e w' => e = .returned (.bool true) ∧ Below w.heap.size w w' := by
  obtain ⟨hl0, hok0, hmx0⟩ := ok0
  go_enter Tryd.func3, Tryd.ntmps3
  have h0 : Below w.heap.size w w := Below.refl _ _
  go_wp2_with fail
  refine (szFunctionS_sz _ _ a0 _ _ hl0 hmx0 hok0 (by omega) (by omega)).mono ?_
  rintro e w1 ⟨r1, rfl, hra1, hrb1, hrp1, hb1⟩
  have h1 := blw h0 hb1
  by_cases hneg1 : r1 < 0
  · clear hrp1
    go_wp2_with fail
    go_ret
    exact ⟨rfl, h1⟩
  obtain ⟨hn0, hne0⟩ := hrp1 (by omega)
  have Hne0 := Lib.hid hne0
  clear hrp1 hne0
  have hnn1 : ¬ r1 < 0 := hneg1
  go_wp2_with fail
  refine (toFunctionS_any _ _ a0 _ ((hl0.below h1).more h1.size) hn0).mono ?_
  rintro e w2 ⟨g_s, gl_s, rfl, o_s, hb2⟩
  have h2 := blw h1 hb2
  go_wp2_with fail
  refine (c_spec_IsTree _ _ a0 _ (o_s.ls encFn_len) hn0 Hne0.out (Nat.le_refl _)).mono ?_
  rintro e w3 ⟨rfl, hb3⟩
  have h3 := blw h2 hb3
  go_wp2_with fail
  refine (toFunctionS_any _ _ a0 _ ((hl0.below h3).more h3.size) hn0).mono ?_
  rintro e w4 ⟨g_x, gl_x, rfl, o_x, hb4⟩
  have h4 := blw h3 hb4
  go_wp2_with fail
  refine (IsTree_any _ _ a0 _ (o_x.ls encFn_len) hn0 Hne0.out (Nat.le_refl _)).mono ?_
  rintro e w5 ⟨rfl, hb5⟩
  have h5 := blw h4 hb5
  replace o_x := o_x.below hb5 o_x.lt
  go_wp2_with fail
  refine (toFunctionS_any _ _ a0 _ ((hl0.below h5).more h5.size) hn0).mono ?_
  rintro e w6 ⟨g_t, gl_t, rfl, o_t, hb6⟩
  have h6 := blw h5 hb6
  replace o_x := o_x.below hb6 o_x.lt
  go_wp2_with fail
  refine (eqFunctionS_any _ _ _ _ a0 _ (o_x.ls encFn_len) (o_t.ls encFn_len) (by omega)).mono ?_
  rintro e w7 ⟨rfl, hb7⟩
  have h7 := blw h6 hb7
  go_wp2_with fail
  go_ret
  exact ⟨rfl, h7⟩

end Go.Proofs.YtainmendkigofaaDoor
