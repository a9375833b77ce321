/- The law of ParseSchedule, walked. -/
import Derived.Test.YtopfcfedcmpamaaDoorW8p
import Derived.Test.YtopfcfedcmpamaaDoorW8r
import Derived.Test.YtopfcfedcmpamaaDoorHRule
import Derived.Deep.RegionHeld3
namespace Go.Proofs.YtopfcfedcmpamaaDoor
set_option linter.unusedVariables false
set_option linter.unusedSimpArgs false
open Go.RowKit
attribute [local go_sem] Aft.cell

set_option maxHeartbeats 4000000 in
theorem walk_FnExactParseSchedule (a0 : ByteArray) (w : World) (ok0 : a0.size ≤ maxLen) (ht : Tab w) (hm : Ml w) :
    Calls Tryd.prog 4 #[.string a0] w fun e w' => e = .returned (.bool true) ∧ Below w.heap.size w w' := by
  have hst0 : a0.size ≤ 9223372036854775807 := by unfold maxLen at ok0; omega
  by_cases hsz0 : ¬ a0.size ≤ 1048576
  · have hsq0 : (1048576 : Int) < (a0.size : Int) := by omega
    go_enter Tryd.func4, Tryd.ntmps4
    go_wp2_with fail
    go_ret
    exact ⟨rfl, Below.refl _ _⟩
  replace hsz0 : a0.size ≤ 1048576 := Decidable.not_not.1 hsz0
  go_enter Tryd.func4, Tryd.ntmps4
  have h0 : Below w.heap.size w w := Below.refl _ _
  go_wp2_with fail
  refine (c_spec_ParseSchedule _ _ hsz0).mono ?_
  rintro e w1 ⟨A_w, C_w, rfl, o_w, hb1⟩
  have h1 := blw h0 hb1
  have z1 := hb1.size
  have bk_w : ∀ b, blkOf A_w b → w.heap.size ≤ b := fun b hb => (o_w.block hb).1
  replace o_w := o_w.ls encRule_len
  have ble_w : w1.heap.size ≤ w1.heap.size := Nat.le_refl _
  have Bw : ∃ n, n = w1.heap.size := ⟨_, rfl⟩
  obtain ⟨Bw, hBw⟩ := Bw
  rw [← hBw] at o_w
  have ble_w : Bw ≤ w1.heap.size := Nat.le_of_eq hBw
  have bw0 := ble_w
  have HBw := Lib.hid hBw
  clear hBw bk_w
  go_wp2_with fail
  refine (c_impl_ParseSchedule _ _ hsz0 (tab_below ht h1) (ml_below hm h1)).mono ?_
  rintro e w2 ⟨A_g, C_g, rfl, o_g, hb2⟩
  have h2 := blw h1 hb2
  have z2 := hb2.size
  replace o_w := o_w.below (hb2.mono ble_w)
  replace ble_w := Nat.le_trans ble_w hb2.size
  have bs_g : ∃ n, n = w1.heap.size := ⟨_, rfl⟩
  have ub_g : ∀ b, blkOf A_g b → b < w2.heap.size := fun b hb => (o_g.block hb).2
  obtain ⟨Bg, hBg⟩ := bs_g
  rw [← hBg] at o_g
  have gg_g : w1.heap.size ≤ Bg := Nat.le_of_eq hBg.symm
  have HBg := Lib.hid hBg
  clear hBg
  have gw_g : w.heap.size ≤ Bg := by have := h2.size; omega
  go_wp2_with fail
  refine (eqRuleS_any _ _ _ _ (keepS (okS a0) (pRul a0)) _ (o_g.ls encRule_len) (o_w.more ble_w) (by have := keepS_le a0; omega)).mono ?_
  rintro e w3 ⟨rfl, hb3⟩
  have h3 := blw h2 hb3
  have z3 := hb3.size
  replace o_w := o_w.below (hb3.mono ble_w)
  replace ble_w := Nat.le_trans ble_w hb3.size
  replace o_g := o_g.on hb3
  have hr_g := o_g.row1
  go_wp2_with fail
  refine (markRuleS_any _ _ _ _ _ hr_g (by have := keepS_le a0; omega) (by omega) (by omega)).mono ?_
  rintro e w4 ⟨rfl, hw4, o_m⟩
  have hS4 : ∀ b, blkOf A_g b → Bg ≤ b := fun b hb => (o_g.block hb).1
  have h4 := h3.trans (hw4.below h3.size (fun b hb => Nat.le_trans gw_g (hS4 b hb)))
  have z4 := hw4.size
  replace o_w := o_w.wr hw4 (fun b hb => by have := hS4 b hb; omega) ble_w
  replace ble_w := Nat.le_trans ble_w hw4.size
  go_wp2_with fail
  refine (heldRuleS_any _ _ _ _ _ o_m (by have := keepS_le a0; omega) (by omega) (by omega)).mono ?_
  rintro e _ ⟨rfl, rfl⟩
  go_wp2_with fail
  refine (c_impl_ParseSchedule _ _ hsz0 (tab_below ht h4) (ml_below hm h4)).mono ?_
  rintro e w5 ⟨A_h, C_h, rfl, o_h, hb5⟩
  have h5 := blw h4 hb5
  have z5 := hb5.size
  replace o_w := o_w.below (hb5.mono ble_w)
  replace ble_w := Nat.le_trans ble_w hb5.size
  replace o_m := (o_m.below hb5).more hb5.size
  go_wp2_with fail
  refine (eqRuleS_any _ _ _ _ (keepS (okS a0) (pRul a0)) _ (o_h.ls encRule_len) (o_w.more ble_w) (by have := keepS_le a0; omega)).mono ?_
  rintro e w6 ⟨rfl, hb6⟩
  have h6 := blw h5 hb6
  have z6 := hb6.size
  replace o_w := o_w.below (hb6.mono ble_w)
  replace ble_w := Nat.le_trans ble_w hb6.size
  replace o_m := (o_m.below hb6).more hb6.size
  replace o_h := o_h.on hb6
  go_wp2_with fail
  refine (heldRuleS_any _ _ _ _ _ o_m (by have := keepS_le a0; omega) (by omega) (by omega)).mono ?_
  rintro e _ ⟨rfl, rfl⟩
  go_wp2_with fail
  go_ret
  exact ⟨rfl, h6⟩

end Go.Proofs.YtopfcfedcmpamaaDoor
