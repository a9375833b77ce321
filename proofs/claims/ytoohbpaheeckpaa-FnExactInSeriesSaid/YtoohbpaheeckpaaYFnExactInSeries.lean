/- The law of InSeries, walked. -/
import Derived.Test.YtoohbpaheeckpaaW2s
import Derived.Test.YtoohbpaheeckpaaHInt
namespace Go.Proofs.Ytoohbpaheeckpaa
set_option linter.unusedVariables false
set_option linter.unusedSimpArgs false
open Go.RowKit
attribute [local go_sem] Aft.cell

set_option maxHeartbeats 1000000 in
theorem walk_FnExactInSeries (A0 : Option Addr) (c0 : Nat) (a0 : List Rec) (a1 : Int) (w : World) (ok0 : okSl w encRec 4 (okRec w) A0 a0) (ok1 : Rng a1) :
    Calls Try.prog 5 #[.slice A0 a0.length c0, .int .i64 a1] w fun e w' => e = .returned (.bool true) ∧ Below w.heap.size w w' := by
  obtain ⟨hl0, hok0, hmx0⟩ := ok0
  have he0 : EvR w a0 := fun r hr => (hok0 r hr).2.2.2.1
  go_enter Try.func5, Try.ntmps5
  have h0 : Below w.heap.size w w := Below.refl _ _
  go_wp2_with fail
  refine (szRecordS_sz _ _ a0 _ _ hl0 hmx0 (fun r hr => (hok0 r hr).2.2.2.2.2) (by omega) (by omega)).mono ?_
  rintro e w1 ⟨r1, rfl, hra1, hrb1, hrp1, hb1⟩
  have h1 := blw h0 hb1
  by_cases hneg1 : r1 < 0
  · clear hrp1
    go_wp2_with fail
    go_ret
    exact ⟨rfl, h1⟩
  have hn0 := hrp1 (by omega)
  clear hrp1
  have hnn1 : ¬ r1 < 0 := hneg1
  have hle := inSerL_le a0 a1
  go_wp2_with fail
  refine (toRecordS_any _ _ a0 _ ((hl0.below h1).more h1.size) (fun r hr => ((he0 r hr).below h1).more h1.size) hn0).mono ?_
  rintro e w2 ⟨g_s, l_s, gl_s, ln_s, d_s, rfl, o_s, v_s, hb2⟩
  have h2 := blw h1 hb2
  have hC2 := c_spec_InSeries (some ⟨g_s, 0, none⟩) a0.length l_s a1 w2 (o_s.ls encRec_len) v_s.evr (by have := totR_dat d_s; omega)
  rw [ln_s, (inSer_dat d_s a1).1, (inSer_dat d_s a1).2] at hC2
  clear ln_s d_s o_s v_s
  go_wp2_with fail
  refine hC2.mono ?_
  rintro e w3 ⟨A_w, C_w, rfl, o_w, hb3⟩
  have h3 := blw h2 hb3
  clear hC2
  replace o_w := o_w.ls encInt_len
  obtain ⟨Bw, hBw⟩ : ∃ n, n = w3.heap.size := ⟨_, rfl⟩
  rw [← hBw] at o_w
  have ble_w : Bw ≤ w3.heap.size := Nat.le_of_eq hBw
  have HBw := Lib.hid hBw
  clear hBw
  go_wp2_with fail
  refine (toRecordS_any _ _ a0 _ ((hl0.below h3).more h3.size) (fun r hr => ((he0 r hr).below h3).more h3.size) hn0).mono ?_
  rintro e w4 ⟨g_x, l_x, gl_x, ln_x, d_x, rfl, o_x, v_x, hb4⟩
  have h4 := blw h3 hb4
  have gw_x : Bw ≤ g_x := Nat.le_trans ble_w gl_x
  replace o_w := o_w.below (hb4.mono ble_w)
  replace ble_w := Nat.le_trans ble_w hb4.size
  have hC4 := c_impl_InSeries (some ⟨g_x, 0, none⟩) a0.length l_x a1 w4 (o_x.ls encRec_len) v_x.evr (by have := totR_dat d_x; omega)
  rw [ln_x, (inSer_dat d_x a1).1, (inSer_dat d_x a1).2] at hC4
  have Ln_x := Lib.hid ln_x
  have D_x := Lib.hid d_x
  have hxn : l_x.length + totR l_x ≤ 1048576 := by have := totR_dat d_x; omega
  clear ln_x d_x
  have hgx := o_x.lt
  obtain ⟨Hx, hHx⟩ : ∃ n, n = w4.heap.size := ⟨_, rfl⟩
  rw [← hHx] at v_x hgx
  have hHx2 : Hx ≤ w4.heap.size := Nat.le_of_eq hHx
  have hHx3 : w4.heap.size ≤ Hx := Nat.le_of_eq hHx.symm
  have HHx := Lib.hid hHx
  clear hHx
  go_wp2_with fail
  refine hC4.mono ?_
  rintro e w5 ⟨A_g, C_g, rfl, o_g, hb5⟩
  have h5 := blw h4 hb5
  clear hC4
  replace o_w := o_w.below (hb5.mono ble_w)
  replace ble_w := Nat.le_trans ble_w hb5.size
  replace o_x := o_x.below hb5 o_x.lt
  replace v_x := v_x.below hb5
  obtain ⟨Bg, hBg⟩ : ∃ n, n = w4.heap.size := ⟨_, rfl⟩
  rw [← hBg] at o_g
  have gg_g : w4.heap.size ≤ Bg := Nat.le_of_eq hBg.symm
  have gg_x : Hx ≤ Bg := by omega
  have gw_g : w.heap.size ≤ Bg := by have := h4.size; omega
  have HBg := Lib.hid hBg
  clear hBg
  have hHx4 : Hx ≤ w5.heap.size := Nat.le_trans hHx2 hb5.size
  clear hHx2 hHx3 gg_g
  go_wp2_with fail
  refine (eqIntS_any _ _ _ _ (inSerL a0 a1) _ (o_g.ls encInt_len) (o_w.more ble_w) (by omega)).mono ?_
  rintro e w6 hE6
  obtain ⟨rfl, hb6⟩ := hE6
  have h6 := blw h5 hb6
  replace o_w := o_w.below (hb6.mono ble_w)
  replace ble_w := Nat.le_trans ble_w hb6.size
  replace o_x := o_x.below hb6 o_x.lt
  replace v_x := v_x.below hb6
  replace o_g := o_g.on hb6
  replace hHx4 := Nat.le_trans hHx4 hb6.size
  go_wp2_with fail
  refine (toRecordS_any _ _ a0 _ ((hl0.below h6).more h6.size) (fun r hr => ((he0 r hr).below h6).more h6.size) hn0).mono ?_
  rintro e w7 ⟨g_t, l_t, gl_t, ln_t, d_t, rfl, o_t, v_t, hb7⟩
  have h7 := blw h6 hb7
  replace o_w := o_w.below (hb7.mono ble_w)
  replace ble_w := Nat.le_trans ble_w hb7.size
  replace o_x := o_x.below hb7 o_x.lt
  replace v_x := v_x.below hb7
  replace o_g := o_g.on hb7
  replace hHx4 := Nat.le_trans hHx4 hb7.size
  have hC7 := eqRecordS_any (some ⟨g_x, 0, none⟩) (some ⟨g_t, 0, none⟩) a0.length a0.length l_x l_t w7 (o_x.ls encRec_len) (o_t.ls encRec_len) v_x.evr v_t.evr (d_t.trans D_x.out.symm) hxn
  rw [Ln_x.out, ln_t] at hC7
  clear ln_t d_t o_t v_t
  go_wp2_with fail
  refine hC7.mono ?_
  rintro e w8 ⟨rfl, hb8⟩
  have h8 := blw h7 hb8
  clear hC7
  replace o_w := o_w.below (hb8.mono ble_w)
  replace ble_w := Nat.le_trans ble_w hb8.size
  replace o_x := o_x.below hb8 o_x.lt
  replace v_x := v_x.below hb8
  replace o_g := o_g.on hb8
  replace hHx4 := Nat.le_trans hHx4 hb8.size
  have hC8 := markRecordS_any g_x Hx a0.length l_x 1 w8 o_x v_x hgx hHx4 hxn (by omega) (by omega)
  rw [Ln_x.out] at hC8
  clear o_x v_x
  go_wp2_with fail
  refine hC8.mono ?_
  rintro e w9 ⟨k9, rfl, hk9, hw9⟩
  clear hC8
  have h9 := h8.trans (hw9.below h8.size (fun b hb => by have := h3.size; have := HBw.out; omega))
  replace o_w := o_w.wr hw9 (fun b hb => by omega) ble_w
  replace ble_w := Nat.le_trans ble_w hw9.size
  replace o_g := o_g.wr_up hw9 (fun b hb hS => by omega)
  have hk9' : ¬ k9 < 0 := by omega
  go_wp2_with fail
  refine (eqIntS_any _ _ _ _ (inSerL a0 a1) _ (o_g.ls encInt_len) (o_w.more ble_w) (by omega)).mono ?_
  rintro e w10 hE10
  obtain ⟨rfl, hb10⟩ := hE10
  have h10 := blw h9 hb10
  replace o_w := o_w.below (hb10.mono ble_w)
  replace ble_w := Nat.le_trans ble_w hb10.size
  replace o_g := o_g.on hb10
  have hr_g := o_g.row1
  go_wp2_with fail
  refine (markIntS_any _ _ _ _ _ hr_g (by omega) (by omega) (by omega)).mono ?_
  rintro e w11 ⟨rfl, hw11, o_m⟩
  have hS11 : ∀ b, blkOf A_g b → Bg ≤ b := fun b hb => (o_g.block hb).1
  have h11 := h10.trans (hw11.below h10.size (fun b hb => Nat.le_trans gw_g (hS11 b hb)))
  replace o_w := o_w.wr hw11 (fun b hb => by have := hS11 b hb; omega) ble_w
  replace ble_w := Nat.le_trans ble_w hw11.size
  go_wp2_with fail
  refine (heldIntS_any _ _ _ _ _ o_m (by omega) (by omega) (by omega)).mono ?_
  rintro e _ ⟨rfl, rfl⟩
  go_wp2_with fail
  refine (toRecordS_any _ _ a0 _ ((hl0.below h11).more h11.size) (fun r hr => ((he0 r hr).below h11).more h11.size) hn0).mono ?_
  rintro e w12 ⟨g_u, l_u, gl_u, ln_u, d_u, rfl, o_u, v_u, hb12⟩
  have h12 := blw h11 hb12
  replace o_w := o_w.below (hb12.mono ble_w)
  replace ble_w := Nat.le_trans ble_w hb12.size
  replace o_m := (o_m.below hb12).more hb12.size
  have hC12 := c_impl_InSeries (some ⟨g_u, 0, none⟩) a0.length l_u a1 w12 (o_u.ls encRec_len) v_u.evr (by have := totR_dat d_u; omega)
  rw [ln_u, (inSer_dat d_u a1).1, (inSer_dat d_u a1).2] at hC12
  clear ln_u d_u o_u v_u
  go_wp2_with fail
  refine hC12.mono ?_
  rintro e w13 ⟨A_h, C_h, rfl, o_h, hb13⟩
  have h13 := blw h12 hb13
  clear hC12
  replace o_w := o_w.below (hb13.mono ble_w)
  replace ble_w := Nat.le_trans ble_w hb13.size
  replace o_m := (o_m.below hb13).more hb13.size
  go_wp2_with fail
  refine (eqIntS_any _ _ _ _ (inSerL a0 a1) _ (o_h.ls encInt_len) (o_w.more ble_w) (by omega)).mono ?_
  rintro e w14 hE14
  obtain ⟨rfl, hb14⟩ := hE14
  have h14 := blw h13 hb14
  replace o_m := (o_m.below hb14).more hb14.size
  go_wp2_with fail
  refine (heldIntS_any _ _ _ _ _ o_m (by omega) (by omega) (by omega)).mono ?_
  rintro e _ ⟨rfl, rfl⟩
  go_wp2_with fail
  go_ret
  exact ⟨rfl, h14⟩

end Go.Proofs.Ytoohbpaheeckpaa
