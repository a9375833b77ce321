/- The law of SeriesPages, walked. -/
import Derived.Test.YtlhihdcdbclcbaaDoorW5v
import Derived.Test.YtlhihdcdbclcbaaDoorW5w
import Derived.Test.YtlhihdcdbclcbaaDoorHFlM
import Derived.Test.YtlhihdcdbclcbaaDoorHInt
import Derived.Deep.RegionHeld3
namespace Go.Proofs.YtlhihdcdbclcbaaDoor
set_option linter.unusedVariables false
set_option linter.unusedSimpArgs false
open Go.RowKit
attribute [local go_sem] Aft.cell

/-- rows that can be read, below block B -/
structure RdR (w : World) (B : Nat) (A : Option Addr) (R : List SRow) : Prop where
  o : Ls w B encSR 1 A R
  i : ∀ r ∈ R, Ls w B encInt 1 (some ⟨r.g, 0, none⟩) (triL r.t)
section
variable {w w' : World} {B B' base c : Nat} {A : Option Addr} {R : List SRow} {k0 : Int}
theorem RdR.below (h : RdR w B A R) (hb : Below B w w') : RdR w' B A R := ⟨h.o.below hb, fun r hr => (h.i r hr).below hb⟩
theorem RdR.more (h : RdR w B A R) (hB : B ≤ B') : RdR w B' A R := ⟨h.o.more hB, fun r hr => (h.i r hr).more hB⟩
theorem RdR.wr {S : Nat → Prop} (h : RdR w B A R) (hw : Wr S w w') (hs : ∀ k, S k → B ≤ k) (hB : B ≤ w.heap.size) : RdR w' B A R := ⟨h.o.wr hw hs hB, fun r hr => (h.i r hr).wr hw hs hB⟩
/-- rows of one's own -/
structure OwR (w : World) (base : Nat) (A : Option Addr) (c : Nat) (R : List SRow) : Prop where
  v : Vec w base 37 encSR 1 (.slice A R.length c) R
  r : RowsAt w base R
theorem OwR.on (h : OwR w base A c R) (hb : Below w.heap.size w w') : OwR w' base A c R := ⟨h.v.on hb, h.r.on hb⟩
theorem OwR.wr_up {S : Nat → Prop} (h : OwR w base A c R) (hw : Wr S w w') (hn : ∀ k, base ≤ k → ¬ S k) : OwR w' base A c R := ⟨h.v.wr_up hw hn, h.r.wr_ne hw fun r hr => hn _ (h.r.row r hr).1⟩
theorem OwR.rd (h : OwR w base A c R) : RdR w w.heap.size A R := ⟨h.v.ls encSR_len, fun r hr => h.r.ls hr⟩
/-- rows that bear the marks from k0 on -/
structure RdM (w : World) (A : Option Addr) (R : List SRow) (k0 : Int) : Prop where
  o : Ls w w.heap.size encSR 1 A R
  m : ∀ i (hi : i < R.length), Ls w w.heap.size encInt 1 (some ⟨R[i].g, 0, none⟩) (mkInt (k0 + 3 * (i : Int)) 3)
theorem RdM.on (h : RdM w A R k0) (hb : Below w.heap.size w w') : RdM w' A R k0 := ⟨(h.o.below hb).more hb.size, fun i hi => ((h.m i hi).below hb).more hb.size⟩
theorem eqSS (A A' : Option Addr) (c c' : Nat) (R R' : List SRow) (w : World) (a : RdR w w.heap.size A R) (b : RdR w w.heap.size A' R') (he : R.map (·.t) = R'.map (·.t)) (hn : R.length ≤ 99) :
    Calls Tryd.prog 10 #[.slice A R.length c, .slice A' R'.length c'] w fun e w' => e = .returned (.bool true) ∧ Below w.heap.size w w' := eqIntSS_any A A' c c' R R' w a.o b.o a.i b.i he (by omega)
theorem markSS (A : Option Addr) (c : Nat) (R : List SRow) (k0 : Int) (w : World) (base : Nat) (a : OwR w base A c R) (hn : R.length ≤ 99) (h0 : 0 ≤ k0) (h1 : k0 ≤ 1048576) :
    Calls Tryd.prog 13 #[.slice A R.length c, .int .i64 k0] w fun e w' => e = .returned (.int .i64 (k0 + 3 * (R.length : Int))) ∧ Wr (fun q => ∃ r ∈ R, q = r.g) w w' ∧ RdM w' A R k0 := by
  have hA : ∀ r ∈ R, ¬ blkOf A r.g := fun r hr h => a.v.ne_of (a.r.row r hr).2 (by decide) h
  refine (markIntSS_any A c R k0 w (a.v.ls encSR_len) (fun r hr => (a.r.row r hr).2.row3) a.r.nd hA (by omega) h0 h1).mono ?_
  rintro e w' ⟨rfl, hw, hm⟩
  refine ⟨rfl, hw, fun h => ?_, hm⟩
  obtain ⟨b, off, rfl, hb, hc⟩ := a.v.ls encSR_len h
  have hnb : ¬ ∃ r ∈ R, b = r.g := fun ⟨r, hr, e⟩ => hA r hr ⟨off, by rw [e]⟩
  exact ⟨b, off, rfl, Nat.lt_of_lt_of_le hb hw.size, fun i hi j u hu => (hw.cell hb hnb).trans (hc i hi j u hu)⟩
theorem heldSS (A : Option Addr) (c : Nat) (R : List SRow) (k0 : Int) (w : World) (a : RdM w A R k0) (hn : R.length ≤ 99) (h0 : 0 ≤ k0) (h1 : k0 ≤ 1048576) :
    Calls Tryd.prog 14 #[.slice A R.length c, .int .i64 k0] w fun e w' => e = .returned (.int .i64 (k0 + 3 * (R.length : Int))) ∧ w = w' := heldIntSS_any A c R k0 w a.o a.m (by omega) h0 h1
end
theorem ser_le {R : List SRow} {l : List FileD} (h : R.map (·.t) = serL l) : R.length ≤ 99 := by
  have h1 := congrArg List.length h
  rw [List.length_map] at h1
  rw [h1]
  unfold serL
  split
  · unfold serP serR
    exact Nat.le_trans (List.length_filterMap_le _ _) (by simp)
  · simp

set_option maxHeartbeats 4000000 in
theorem walk_FnExactSeriesPages (A0 : Option Addr) (c0 : Nat) (a0 : List FileD) (w : World) (ok0 : okSl w encFile 7 okFile A0 a0) :
    Calls Tryd.prog 3 #[.slice A0 a0.length c0] w fun e w' => e = .returned (.bool true) ∧ Below w.heap.size w w' := by
  obtain ⟨hl0, hok0, hmx0⟩ := ok0
  go_enter Tryd.func3, Tryd.ntmps3
  have h0 : Below w.heap.size w w := Below.refl _ _
  go_wp2_with fail
  refine (szFileS_sz _ _ a0 _ _ ((hl0.below h0).more h0.size) hmx0 hok0 (by omega) (by omega)).mono ?_
  rintro e w1 ⟨r1, rfl, hra1, hrb1, hrp1, hb1⟩
  have h1 := blw h0 hb1
  have z1 := hb1.size
  by_cases hneg1 : r1 < 0
  · clear hrp1
    go_wp2_with fail
    go_ret
    exact ⟨rfl, h1⟩
  have hn0 := hrp1 (by omega)
  clear hrp1
  have hnn1 : ¬ r1 < 0 := hneg1
  obtain ⟨hn0, hne0⟩ := hn0
  have Hne0 := Lib.hid hne0
  clear hne0
  go_wp2_with fail
  refine (toFileS_any _ _ a0 _ ((hl0.below h1).more h1.size) hn0).mono ?_
  rintro e w2 ⟨g_s0, gl_s0, rfl, o_s0, hb2⟩
  have h2 := blw h1 hb2
  have z2 := hb2.size
  have y_s0 := o_s0.lt
  go_wp2_with fail
  refine (c_spec_SeriesPages _ _ a0 _ (o_s0.ls encFile_len) hn0 Hne0.out (Nat.le_refl _)).mono ?_
  rintro e w3 ⟨A_w, C_w, R_w, rfl, v_w, r_w, m_w, hb3⟩
  have o_w : RdR w3 w3.heap.size A_w R_w := OwR.rd ⟨v_w, r_w⟩
  have M_w := Lib.hid m_w
  clear v_w r_w m_w
  have h3 := blw h2 hb3
  have z3 := hb3.size
  replace o_s0 := o_s0.below hb3 o_s0.lt
  have ble_w : w3.heap.size ≤ w3.heap.size := Nat.le_refl _
  have Bw : ∃ n, n = w3.heap.size := ⟨_, rfl⟩
  obtain ⟨Bw, hBw⟩ := Bw
  rw [← hBw] at o_w
  have ble_w : Bw ≤ w3.heap.size := Nat.le_of_eq hBw
  have bw0 := ble_w
  have HBw := Lib.hid hBw
  clear hBw
  go_wp2_with fail
  refine (toFileS_any _ _ a0 _ ((hl0.below h3).more h3.size) hn0).mono ?_
  rintro e w4 ⟨g_x0, gl_x0, rfl, o_x0, hb4⟩
  have h4 := blw h3 hb4
  have z4 := hb4.size
  replace o_w := o_w.below (hb4.mono ble_w)
  replace ble_w := Nat.le_trans ble_w hb4.size
  have y_x0 := o_x0.lt
  have gw_x0 : Bw ≤ g_x0 := Nat.le_trans (by omega) gl_x0
  go_wp2_with fail
  refine (c_impl_SeriesPages _ _ a0 _ (o_x0.ls encFile_len) hn0 Hne0.out (Nat.le_refl _)).mono ?_
  rintro e w5 ⟨A_g, C_g, R_g, rfl, v_g, r_g, m_g, hb5⟩
  have o_g : OwR w5 w4.heap.size A_g C_g R_g := ⟨v_g, r_g⟩
  have lr_g := ser_le m_g
  have M_g := Lib.hid m_g
  clear v_g r_g m_g
  have h5 := blw h4 hb5
  have z5 := hb5.size
  replace o_w := o_w.below (hb5.mono ble_w)
  replace ble_w := Nat.le_trans ble_w hb5.size
  replace o_x0 := o_x0.below hb5 o_x0.lt
  have bs_g : ∃ n, n = w4.heap.size := ⟨_, rfl⟩
  obtain ⟨Bg, hBg⟩ := bs_g
  rw [← hBg] at o_g
  have gg_g : w4.heap.size ≤ Bg := Nat.le_of_eq hBg.symm
  have HBg := Lib.hid hBg
  clear hBg
  have gg_x0 : g_x0 < Bg := by omega
  have gw_g : w.heap.size ≤ Bg := by have := h5.size; omega
  go_wp2_with fail
  refine (eqSS _ _ _ _ R_g R_w _ o_g.rd (o_w.more ble_w) (M_g.out.trans M_w.out.symm) lr_g).mono ?_
  rintro e w6 ⟨rfl, hb6⟩
  have h6 := blw h5 hb6
  have z6 := hb6.size
  replace o_w := o_w.below (hb6.mono ble_w)
  replace ble_w := Nat.le_trans ble_w hb6.size
  replace o_x0 := o_x0.below hb6 o_x0.lt
  replace o_g := o_g.on hb6
  go_wp2_with fail
  refine (toFileS_any _ _ a0 _ ((hl0.below h6).more h6.size) hn0).mono ?_
  rintro e w7 ⟨g_t0, gl_t0, rfl, o_t0, hb7⟩
  have h7 := blw h6 hb7
  have z7 := hb7.size
  replace o_w := o_w.below (hb7.mono ble_w)
  replace ble_w := Nat.le_trans ble_w hb7.size
  replace o_x0 := o_x0.below hb7 o_x0.lt
  replace o_g := o_g.on hb7
  have y_t0 := o_t0.lt
  go_wp2_with fail
  refine (eqFileS_any _ _ _ _ a0 _ (o_x0.ls encFile_len) (o_t0.ls encFile_len) (by omega)).mono ?_
  rintro e w8 ⟨rfl, hb8⟩
  have h8 := blw h7 hb8
  have z8 := hb8.size
  replace o_w := o_w.below (hb8.mono ble_w)
  replace ble_w := Nat.le_trans ble_w hb8.size
  replace o_x0 := o_x0.below hb8 o_x0.lt
  replace o_g := o_g.on hb8
  replace o_t0 := o_t0.below hb8 o_t0.lt
  go_wp2_with fail
  refine (markFileS_any _ _ a0.length _ _ o_x0.row1 hn0 (by omega) (by omega)).mono ?_
  rintro e w9 ⟨rfl, hw9, _⟩
  have hS9 : ∀ b, blkOf (some ⟨g_x0, 0, none⟩) b → g_x0 ≤ b := fun b hb => by obtain ⟨q, hq⟩ := hb; simp at hq <;> omega
  have h9 := h8.trans (hw9.below h8.size (fun b hb => Nat.le_trans (by have := h0.size; omega) (hS9 b hb)))
  have z9 := hw9.size
  replace o_w := o_w.wr hw9 (fun b hb => by have := hS9 b hb; omega) ble_w
  replace ble_w := Nat.le_trans ble_w hw9.size
  replace o_g := o_g.wr_up hw9 (fun b hb hS => by obtain ⟨q, hq⟩ := hS; simp at hq <;> omega)
  go_wp2_with fail
  refine (eqSS _ _ _ _ R_g R_w _ o_g.rd (o_w.more ble_w) (M_g.out.trans M_w.out.symm) lr_g).mono ?_
  rintro e w10 ⟨rfl, hb10⟩
  have h10 := blw h9 hb10
  have z10 := hb10.size
  replace o_w := o_w.below (hb10.mono ble_w)
  replace ble_w := Nat.le_trans ble_w hb10.size
  replace o_g := o_g.on hb10
  go_wp2_with fail
  refine (markSS _ _ R_g _ _ _ o_g lr_g (by omega) (by omega)).mono ?_
  rintro e w11 ⟨rfl, hw11, o_m⟩
  have hS11 : ∀ b, (∃ r ∈ R_g, b = r.g) → Bg ≤ b := fun b ⟨r, hr, e⟩ => by rw [e]; exact (o_g.r.row r hr).1
  have h11 := h10.trans (hw11.below h10.size (fun b hb => Nat.le_trans gw_g (hS11 b hb)))
  have z11 := hw11.size
  replace o_w := o_w.wr hw11 (fun b hb => by have := hS11 b hb; omega) ble_w
  replace ble_w := Nat.le_trans ble_w hw11.size
  go_wp2_with fail
  refine (heldSS _ _ R_g _ _ o_m lr_g (by omega) (by omega)).mono ?_
  rintro e _ ⟨rfl, rfl⟩
  go_wp2_with fail
  refine (toFileS_any _ _ a0 _ ((hl0.below h11).more h11.size) hn0).mono ?_
  rintro e w12 ⟨g_u0, gl_u0, rfl, o_u0, hb12⟩
  have h12 := blw h11 hb12
  have z12 := hb12.size
  replace o_w := o_w.below (hb12.mono ble_w)
  replace ble_w := Nat.le_trans ble_w hb12.size
  replace o_m := o_m.on hb12
  have y_u0 := o_u0.lt
  go_wp2_with fail
  refine (c_impl_SeriesPages _ _ a0 _ (o_u0.ls encFile_len) hn0 Hne0.out (Nat.le_refl _)).mono ?_
  rintro e w13 ⟨A_h, C_h, R_h, rfl, v_h, r_h, m_h, hb13⟩
  have o_h : OwR w13 w12.heap.size A_h C_h R_h := ⟨v_h, r_h⟩
  have lr_h := ser_le m_h
  have M_h := Lib.hid m_h
  clear v_h r_h m_h
  have h13 := blw h12 hb13
  have z13 := hb13.size
  replace o_w := o_w.below (hb13.mono ble_w)
  replace ble_w := Nat.le_trans ble_w hb13.size
  replace o_m := o_m.on hb13
  replace o_u0 := o_u0.below hb13 o_u0.lt
  go_wp2_with fail
  refine (eqSS _ _ _ _ R_h R_w _ o_h.rd (o_w.more ble_w) (M_h.out.trans M_w.out.symm) lr_h).mono ?_
  rintro e w14 ⟨rfl, hb14⟩
  have h14 := blw h13 hb14
  have z14 := hb14.size
  replace o_w := o_w.below (hb14.mono ble_w)
  replace ble_w := Nat.le_trans ble_w hb14.size
  replace o_m := o_m.on hb14
  replace o_h := o_h.on hb14
  go_wp2_with fail
  refine (heldSS _ _ R_g _ _ o_m lr_g (by omega) (by omega)).mono ?_
  rintro e _ ⟨rfl, rfl⟩
  go_wp2_with fail
  go_ret
  exact ⟨rfl, h14⟩

end Go.Proofs.YtlhihdcdbclcbaaDoor
