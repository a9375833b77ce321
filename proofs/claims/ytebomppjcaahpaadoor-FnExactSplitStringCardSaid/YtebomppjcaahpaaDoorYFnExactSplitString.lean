/- The law of SplitString, walked. -/
import Derived.Test.YtebomppjcaahpaaDoorW1t
import Derived.Test.YtebomppjcaahpaaDoorHStr
namespace Go.Proofs.YtebomppjcaahpaaDoor
set_option linter.unusedVariables false
set_option linter.unusedSimpArgs false
open Go.RowKit
attribute [local go_sem] Aft.cell

set_option maxHeartbeats 2000000 in
theorem walk_FnExactSplitString (a0 a1 : ByteArray) (w : World) (ok0 : a0.size ≤ maxLen) (ok1 : a1.size ≤ maxLen) (hm : Ml w) :
    Calls Tryd.prog 4 #[.string a0, .string a1] w fun e w' => e = .returned (.bool true) ∧ Below w.heap.size w w' := by
  unfold maxLen at ok0 ok1
  by_cases hs0 : a0.size ≤ 1048576
  · by_cases hs1 : a1.size ≤ 1048576
    · have hle := splL_le a0 a1
      have h0 : Below w.heap.size w w := Below.refl _ _
      go_enter Tryd.func4, Tryd.ntmps4
      go_wp2_with fail
      refine (c_spec_SplitString a0 a1 w hs0 hs1).mono ?_
      rintro e w1 ⟨A_w, C_w, rfl, o_w, hb1⟩
      have h1 := blw h0 hb1
      replace o_w := o_w.ls encStr_len
      obtain ⟨Bw, hBw⟩ : ∃ n, n = w1.heap.size := ⟨_, rfl⟩
      rw [← hBw] at o_w
      have ble_w : Bw ≤ w1.heap.size := Nat.le_of_eq hBw
      have HBw := Lib.hid hBw
      clear hBw
      go_wp2_with fail
      refine (c_impl_SplitString a0 a1 w1 hs0 hs1 (ml_below hm h1)).mono ?_
      rintro e w2 ⟨A_g, C_g, rfl, o_g, hb2⟩
      have h2 := blw h1 hb2
      have hBg : Bw ≤ w1.heap.size := ble_w
      obtain ⟨Bg, hBg2⟩ : ∃ n, n = w1.heap.size := ⟨_, rfl⟩
      rw [← hBg2] at o_g hBg
      have gw_g : w.heap.size ≤ Bg := by have := h1.size; omega
      have HBg := Lib.hid hBg2
      clear hBg2
      replace o_w := o_w.below (hb2.mono ble_w)
      replace ble_w := Nat.le_trans ble_w hb2.size
      go_wp2_with fail
      refine (eqStringS_any _ _ _ _ (splL a0 a1) _ (o_g.ls encStr_len) (o_w.more ble_w) (by omega)).mono ?_
      rintro e w3 ⟨rfl, hb3⟩
      have h3 := blw h2 hb3
      replace o_w := o_w.below (hb3.mono ble_w)
      replace ble_w := Nat.le_trans ble_w hb3.size
      replace o_g := o_g.on hb3
      have hr_g := o_g.row1
      go_wp2_with fail
      refine (markStringS_any _ _ _ _ _ hr_g (by omega) (by omega) (by omega)).mono ?_
      rintro e w4 ⟨rfl, hw4, o_m⟩
      have hS4 : ∀ b, blkOf A_g b → Bg ≤ b := fun b hb => (o_g.block hb).1
      have h4 := h3.trans (hw4.below h3.size (fun b hb => Nat.le_trans gw_g (hS4 b hb)))
      replace o_w := o_w.wr hw4 (fun b hb => by have := hS4 b hb; omega) ble_w
      replace ble_w := Nat.le_trans ble_w hw4.size
      go_wp2_with fail
      refine (heldStringS_any _ _ _ _ _ o_m (by omega) (by omega) (by omega)).mono ?_
      rintro e w5 ⟨rfl, hb5⟩
      have h5 := blw h4 hb5
      replace o_w := o_w.below (hb5.mono ble_w)
      replace ble_w := Nat.le_trans ble_w hb5.size
      replace o_m := (o_m.below hb5).more hb5.size
      go_wp2_with fail
      refine (c_impl_SplitString a0 a1 w5 hs0 hs1 (ml_below hm h5)).mono ?_
      rintro e w6 ⟨A_h, C_h, rfl, o_h, hb6⟩
      have h6 := blw h5 hb6
      replace o_w := o_w.below (hb6.mono ble_w)
      replace ble_w := Nat.le_trans ble_w hb6.size
      replace o_m := (o_m.below hb6).more hb6.size
      go_wp2_with fail
      refine (eqStringS_any _ _ _ _ (splL a0 a1) _ (o_h.ls encStr_len) (o_w.more ble_w) (by omega)).mono ?_
      rintro e w7 ⟨rfl, hb7⟩
      have h7 := blw h6 hb7
      replace o_m := (o_m.below hb7).more hb7.size
      go_wp2_with fail
      refine (heldStringS_any _ _ _ _ _ o_m (by omega) (by omega) (by omega)).mono ?_
      rintro e w8 ⟨rfl, hb8⟩
      have h8 := blw h7 hb8
      go_wp2_with fail
      go_ret
      exact ⟨rfl, h8⟩
    · have hs2 : 1048576 < a1.size := by omega
      go_enter Tryd.func4, Tryd.ntmps4
      go_wp2_with fail
      go_ret
      exact ⟨rfl, Below.refl _ _⟩
  · have hs2 : 1048576 < a0.size := by omega
    go_enter Tryd.func4, Tryd.ntmps4
    go_wp2_with fail
    go_ret
    exact ⟨rfl, Below.refl _ _⟩

end Go.Proofs.YtebomppjcaahpaaDoor
