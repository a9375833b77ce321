/- The law of ClosedSince, walked. -/
import Derived.Test.YtlhihdcdbclcbaaDoorW5t
import Derived.Test.YtlhihdcdbclcbaaDoorHFlM
import Derived.Test.YtlhihdcdbclcbaaDoorHInt
import Derived.Deep.RegionHeld3
namespace Go.Proofs.YtlhihdcdbclcbaaDoor
set_option linter.unusedVariables false
set_option linter.unusedSimpArgs false
open Go.RowKit
attribute [local go_sem] Aft.cell

set_option maxHeartbeats 4000000 in
theorem walk_FnExactClosedSince (A0 : Option Addr) (c0 : Nat) (a0 : List FileD) (a1 : Int) (a2 : Int) (w : World) (ok0 : okSl w encFile 7 okFile A0 a0) (ok1 : Rng a1) (ok2 : Rng a2) :
    Calls Tryd.prog 5 #[.slice A0 a0.length c0, .int .i64 a1, .int .i64 a2] w fun e w' => e = .returned (.bool true) ∧ Below w.heap.size w w' := by
  obtain ⟨hl0, hok0, hmx0⟩ := ok0
  go_enter Tryd.func5, Tryd.ntmps5
  have h0 : Below w.heap.size w w := Below.refl _ _
  go_wp2_with fail
  refine (szFileS_sz _ _ a0 _ _ ((hl0.below h0).more h0.size) hmx0 hok0 (by omega) (by omega)).mono ?_
  rintro e w1 ⟨r1, rfl, hra1, hrb1, hrp1, hb1⟩
  have h1 := blw h0 hb1
  have z1 := hb1.size
  by_cases hneg1 : r1 < 0
  · clear hrp1
    go_wp2_with fail
    go_ret
    exact ⟨rfl, h1⟩
  have hn0 := hrp1 (by omega)
  clear hrp1
  have hnn1 : ¬ r1 < 0 := hneg1
  obtain ⟨hn0, hne0⟩ := hn0
  have Hne0 := Lib.hid hne0
  clear hne0
  go_wp2_with fail
  refine (toFileS_any _ _ a0 _ ((hl0.below h1).more h1.size) hn0).mono ?_
  rintro e w2 ⟨g_s0, gl_s0, rfl, o_s0, hb2⟩
  have h2 := blw h1 hb2
  have z2 := hb2.size
  have y_s0 := o_s0.lt
  go_wp2_with fail
  refine (c_spec_ClosedSince _ _ a0 _ _ _ (o_s0.ls encFile_len) hn0 Hne0.out (Nat.le_refl _)).mono ?_
  rintro e w3 ⟨A_w, C_w, rfl, o_w, hb3⟩
  have h3 := blw h2 hb3
  have z3 := hb3.size
  replace o_s0 := o_s0.below hb3 o_s0.lt
  have bk_w : ∀ b, blkOf A_w b → w2.heap.size ≤ b := fun b hb => (o_w.block hb).1
  replace o_w := o_w.ls encInt_len
  have ble_w : w3.heap.size ≤ w3.heap.size := Nat.le_refl _
  have Bw : ∃ n, n = w3.heap.size := ⟨_, rfl⟩
  obtain ⟨Bw, hBw⟩ := Bw
  rw [← hBw] at o_w
  have ble_w : Bw ≤ w3.heap.size := Nat.le_of_eq hBw
  have bw0 := ble_w
  have HBw := Lib.hid hBw
  clear hBw bk_w
  go_wp2_with fail
  refine (toFileS_any _ _ a0 _ ((hl0.below h3).more h3.size) hn0).mono ?_
  rintro e w4 ⟨g_x0, gl_x0, rfl, o_x0, hb4⟩
  have h4 := blw h3 hb4
  have z4 := hb4.size
  replace o_w := o_w.below (hb4.mono ble_w)
  replace ble_w := Nat.le_trans ble_w hb4.size
  have y_x0 := o_x0.lt
  have gw_x0 : Bw ≤ g_x0 := Nat.le_trans (by omega) gl_x0
  go_wp2_with fail
  refine (c_impl_ClosedSince _ _ a0 _ _ _ (o_x0.ls encFile_len) hn0 Hne0.out (Nat.le_refl _)).mono ?_
  rintro e w5 ⟨A_g, C_g, rfl, o_g, hb5⟩
  have h5 := blw h4 hb5
  have z5 := hb5.size
  replace o_w := o_w.below (hb5.mono ble_w)
  replace ble_w := Nat.le_trans ble_w hb5.size
  replace o_x0 := o_x0.below hb5 o_x0.lt
  have bs_g : ∃ n, n = w4.heap.size := ⟨_, rfl⟩
  have ub_g : ∀ b, blkOf A_g b → b < w5.heap.size := fun b hb => (o_g.block hb).2
  obtain ⟨Bg, hBg⟩ := bs_g
  rw [← hBg] at o_g
  have gg_g : w4.heap.size ≤ Bg := Nat.le_of_eq hBg.symm
  have HBg := Lib.hid hBg
  clear hBg
  have gg_x0 : g_x0 < Bg := by omega
  have gw_g : w.heap.size ≤ Bg := by have := h5.size; omega
  go_wp2_with fail
  refine (eqIntS_any _ _ _ _ (closedL a0 a1 a2) _ (o_g.ls encInt_len) (o_w.more ble_w) (by have := closedL_le a0 a1 a2; omega)).mono ?_
  rintro e w6 ⟨rfl, hb6⟩
  have h6 := blw h5 hb6
  have z6 := hb6.size
  replace o_w := o_w.below (hb6.mono ble_w)
  replace ble_w := Nat.le_trans ble_w hb6.size
  replace o_x0 := o_x0.below hb6 o_x0.lt
  replace o_g := o_g.on hb6
  go_wp2_with fail
  refine (toFileS_any _ _ a0 _ ((hl0.below h6).more h6.size) hn0).mono ?_
  rintro e w7 ⟨g_t0, gl_t0, rfl, o_t0, hb7⟩
  have h7 := blw h6 hb7
  have z7 := hb7.size
  replace o_w := o_w.below (hb7.mono ble_w)
  replace ble_w := Nat.le_trans ble_w hb7.size
  replace o_x0 := o_x0.below hb7 o_x0.lt
  replace o_g := o_g.on hb7
  have y_t0 := o_t0.lt
  go_wp2_with fail
  refine (eqFileS_any _ _ _ _ a0 _ (o_x0.ls encFile_len) (o_t0.ls encFile_len) (by omega)).mono ?_
  rintro e w8 ⟨rfl, hb8⟩
  have h8 := blw h7 hb8
  have z8 := hb8.size
  replace o_w := o_w.below (hb8.mono ble_w)
  replace ble_w := Nat.le_trans ble_w hb8.size
  replace o_x0 := o_x0.below hb8 o_x0.lt
  replace o_g := o_g.on hb8
  replace o_t0 := o_t0.below hb8 o_t0.lt
  go_wp2_with fail
  refine (markFileS_any _ _ a0.length _ _ o_x0.row1 hn0 (by omega) (by omega)).mono ?_
  rintro e w9 ⟨rfl, hw9, _⟩
  have hS9 : ∀ b, blkOf (some ⟨g_x0, 0, none⟩) b → g_x0 ≤ b := fun b hb => by obtain ⟨q, hq⟩ := hb; simp at hq <;> omega
  have h9 := h8.trans (hw9.below h8.size (fun b hb => Nat.le_trans (by have := h0.size; omega) (hS9 b hb)))
  have z9 := hw9.size
  replace o_w := o_w.wr hw9 (fun b hb => by have := hS9 b hb; omega) ble_w
  replace ble_w := Nat.le_trans ble_w hw9.size
  replace o_g := o_g.wr_up hw9 (fun b hb hS => by obtain ⟨q, hq⟩ := hS; simp at hq <;> omega)
  go_wp2_with fail
  refine (eqIntS_any _ _ _ _ (closedL a0 a1 a2) _ (o_g.ls encInt_len) (o_w.more ble_w) (by have := closedL_le a0 a1 a2; omega)).mono ?_
  rintro e w10 ⟨rfl, hb10⟩
  have h10 := blw h9 hb10
  have z10 := hb10.size
  replace o_w := o_w.below (hb10.mono ble_w)
  replace ble_w := Nat.le_trans ble_w hb10.size
  replace o_g := o_g.on hb10
  have hr_g := o_g.row1
  go_wp2_with fail
  refine (markIntS_any _ _ _ _ _ hr_g (by have := closedL_le a0 a1 a2; omega) (by omega) (by omega)).mono ?_
  rintro e w11 ⟨rfl, hw11, o_m⟩
  have hS11 : ∀ b, blkOf A_g b → Bg ≤ b := fun b hb => (o_g.block hb).1
  have h11 := h10.trans (hw11.below h10.size (fun b hb => Nat.le_trans gw_g (hS11 b hb)))
  have z11 := hw11.size
  replace o_w := o_w.wr hw11 (fun b hb => by have := hS11 b hb; omega) ble_w
  replace ble_w := Nat.le_trans ble_w hw11.size
  go_wp2_with fail
  refine (heldIntS_any _ _ _ _ _ o_m (by have := closedL_le a0 a1 a2; omega) (by omega) (by omega)).mono ?_
  rintro e _ ⟨rfl, rfl⟩
  go_wp2_with fail
  refine (toFileS_any _ _ a0 _ ((hl0.below h11).more h11.size) hn0).mono ?_
  rintro e w12 ⟨g_u0, gl_u0, rfl, o_u0, hb12⟩
  have h12 := blw h11 hb12
  have z12 := hb12.size
  replace o_w := o_w.below (hb12.mono ble_w)
  replace ble_w := Nat.le_trans ble_w hb12.size
  replace o_m := (o_m.below hb12).more hb12.size
  have y_u0 := o_u0.lt
  go_wp2_with fail
  refine (c_impl_ClosedSince _ _ a0 _ _ _ (o_u0.ls encFile_len) hn0 Hne0.out (Nat.le_refl _)).mono ?_
  rintro e w13 ⟨A_h, C_h, rfl, o_h, hb13⟩
  have h13 := blw h12 hb13
  have z13 := hb13.size
  replace o_w := o_w.below (hb13.mono ble_w)
  replace ble_w := Nat.le_trans ble_w hb13.size
  replace o_m := (o_m.below hb13).more hb13.size
  replace o_u0 := o_u0.below hb13 o_u0.lt
  go_wp2_with fail
  refine (eqIntS_any _ _ _ _ (closedL a0 a1 a2) _ (o_h.ls encInt_len) (o_w.more ble_w) (by have := closedL_le a0 a1 a2; omega)).mono ?_
  rintro e w14 ⟨rfl, hb14⟩
  have h14 := blw h13 hb14
  have z14 := hb14.size
  replace o_w := o_w.below (hb14.mono ble_w)
  replace ble_w := Nat.le_trans ble_w hb14.size
  replace o_m := (o_m.below hb14).more hb14.size
  replace o_h := o_h.on hb14
  go_wp2_with fail
  refine (heldIntS_any _ _ _ _ _ o_m (by have := closedL_le a0 a1 a2; omega) (by omega) (by omega)).mono ?_
  rintro e _ ⟨rfl, rfl⟩
  go_wp2_with fail
  go_ret
  exact ⟨rfl, h14⟩

end Go.Proofs.YtlhihdcdbclcbaaDoor
