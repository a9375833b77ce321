/- The law of ParseRecord, walked. -/
import Derived.Test.YtopfcfedcmpamaaDoorW7p
import Derived.Test.YtopfcfedcmpamaaDoorW7q
import Derived.Deep.RegionHeld3
namespace Go.Proofs.YtopfcfedcmpamaaDoor
set_option linter.unusedVariables false
set_option linter.unusedSimpArgs false
open Go.RowKit
attribute [local go_sem] Aft.cell

set_option maxHeartbeats 4000000 in
theorem walk_FnExactParseRecord (a0 : ByteArray) (w : World) (ok0 : a0.size ≤ maxLen) (ht : Tab w) (hm : Ml w) :
    Calls Tryd.prog 3 #[.string a0] w fun e w' => e = .returned (.bool true) ∧ Below w.heap.size w w' := by
  have hst0 : a0.size ≤ 9223372036854775807 := by unfold maxLen at ok0; omega
  by_cases hsz0 : ¬ a0.size ≤ 1048576
  · have hsq0 : (1048576 : Int) < (a0.size : Int) := by omega
    go_enter Tryd.func3, Tryd.ntmps3
    go_wp2_with fail
    go_ret
    exact ⟨rfl, Below.refl _ _⟩
  replace hsz0 : a0.size ≤ 1048576 := Decidable.not_not.1 hsz0
  go_enter Tryd.func3, Tryd.ntmps3
  have h0 : Below w.heap.size w w := Below.refl _ _
  go_wp2_with fail
  refine (c_spec_ParseRecord _ _ hsz0).mono ?_
  rintro e w1 ⟨A_w, C_w, rfl, o_w, hb1⟩
  have h1 := blw h0 hb1
  have z1 := hb1.size
  have bk_w : ∀ b, blkOf A_w b → w.heap.size ≤ b := fun b hb => (o_w.block hb).1
  replace o_w := o_w.ls encEv_len
  have ble_w : w1.heap.size ≤ w1.heap.size := Nat.le_refl _
  have Bw : ∃ n, n = w1.heap.size := ⟨_, rfl⟩
  obtain ⟨Bw, hBw⟩ := Bw
  rw [← hBw] at o_w
  have ble_w : Bw ≤ w1.heap.size := Nat.le_of_eq hBw
  have bw0 := ble_w
  have HBw := Lib.hid hBw
  clear hBw bk_w
  go_wp2_with fail
  have hbA1 : Below w1.heap.size w1 (w1.alloc (.cells #[.int .i64 (keepI (okR a0) (pId a0)), .int .i64 (keepI (okR a0) (pSer a0)), .int .i64 (keepI (okR a0) (pMade a0)), .slice A_w (keepE (okR a0) (pEvs a0)).length C_w] 24)) := (Below.refl _ _).alloc (Nat.le_refl _) _
  have rb_w_0 : (w1.alloc (.cells #[.int .i64 (keepI (okR a0) (pId a0)), .int .i64 (keepI (okR a0) (pSer a0)), .int .i64 (keepI (okR a0) (pMade a0)), .slice A_w (keepE (okR a0) (pEvs a0)).length C_w] 24)).cell? ⟨w1.heap.size, 0, none⟩ = some (.int .i64 (keepI (okR a0) (pId a0))) := by simp
  have rb_w_1 : (w1.alloc (.cells #[.int .i64 (keepI (okR a0) (pId a0)), .int .i64 (keepI (okR a0) (pSer a0)), .int .i64 (keepI (okR a0) (pMade a0)), .slice A_w (keepE (okR a0) (pEvs a0)).length C_w] 24)).cell? ⟨w1.heap.size, 1, none⟩ = some (.int .i64 (keepI (okR a0) (pSer a0))) := by simp
  have rb_w_2 : (w1.alloc (.cells #[.int .i64 (keepI (okR a0) (pId a0)), .int .i64 (keepI (okR a0) (pSer a0)), .int .i64 (keepI (okR a0) (pMade a0)), .slice A_w (keepE (okR a0) (pEvs a0)).length C_w] 24)).cell? ⟨w1.heap.size, 2, none⟩ = some (.int .i64 (keepI (okR a0) (pMade a0))) := by simp
  have rb_w_3 : (w1.alloc (.cells #[.int .i64 (keepI (okR a0) (pId a0)), .int .i64 (keepI (okR a0) (pSer a0)), .int .i64 (keepI (okR a0) (pMade a0)), .slice A_w (keepE (okR a0) (pEvs a0)).length C_w] 24)).cell? ⟨w1.heap.size, 3, none⟩ = some (.slice A_w (keepE (okR a0) (pEvs a0)).length C_w) := by simp
  have rb_wl : w1.heap.size < (w1.alloc (.cells #[.int .i64 (keepI (okR a0) (pId a0)), .int .i64 (keepI (okR a0) (pSer a0)), .int .i64 (keepI (okR a0) (pMade a0)), .slice A_w (keepE (okR a0) (pEvs a0)).length C_w] 24)).heap.size := by simp
  have rb_wz : w.heap.size ≤ w1.heap.size := h1.size
  generalize (w1.alloc (.cells #[.int .i64 (keepI (okR a0) (pId a0)), .int .i64 (keepI (okR a0) (pSer a0)), .int .i64 (keepI (okR a0) (pMade a0)), .slice A_w (keepE (okR a0) (pEvs a0)).length C_w] 24)) = wA1 at *
  have rb_wlk := rb_wl
  have hA1 := blw h1 hbA1
  have zA1 := hbA1.size
  replace o_w := o_w.below (hbA1.mono ble_w)
  replace ble_w := Nat.le_trans ble_w hbA1.size
  refine (c_impl_ParseRecord _ _ hsz0 (tab_below ht hA1) (ml_below hm hA1)).mono ?_
  rintro e w2 ⟨A_g, C_g, rfl, o_g, hb2⟩
  have h2 := blw hA1 hb2
  have z2 := hb2.size
  replace rb_w_0 : w2.cell? ⟨w1.heap.size, 0, none⟩ = some (.int .i64 (keepI (okR a0) (pId a0))) := (hb2.cell (p := ⟨w1.heap.size, 0, none⟩) rb_wl).trans rb_w_0
  replace rb_w_1 : w2.cell? ⟨w1.heap.size, 1, none⟩ = some (.int .i64 (keepI (okR a0) (pSer a0))) := (hb2.cell (p := ⟨w1.heap.size, 1, none⟩) rb_wl).trans rb_w_1
  replace rb_w_2 : w2.cell? ⟨w1.heap.size, 2, none⟩ = some (.int .i64 (keepI (okR a0) (pMade a0))) := (hb2.cell (p := ⟨w1.heap.size, 2, none⟩) rb_wl).trans rb_w_2
  replace rb_w_3 : w2.cell? ⟨w1.heap.size, 3, none⟩ = some (.slice A_w (keepE (okR a0) (pEvs a0)).length C_w) := (hb2.cell (p := ⟨w1.heap.size, 3, none⟩) rb_wl).trans rb_w_3
  replace rb_wl := Nat.lt_of_lt_of_le rb_wl hb2.size
  replace o_w := o_w.below (hb2.mono ble_w)
  replace ble_w := Nat.le_trans ble_w hb2.size
  have bs_g : ∃ n, n = wA1.heap.size := ⟨_, rfl⟩
  have ub_g : ∀ b, blkOf A_g b → b < w2.heap.size := fun b hb => (o_g.block hb).2
  obtain ⟨Bg, hBg⟩ := bs_g
  rw [← hBg] at o_g
  have gg_g : wA1.heap.size ≤ Bg := Nat.le_of_eq hBg.symm
  have HBg := Lib.hid hBg
  clear hBg
  have gg_rb_w : w1.heap.size < Bg := by omega
  have gw_g : w.heap.size ≤ Bg := by have := h2.size; omega
  go_wp2_with fail
  have hbA2 : Below w2.heap.size w2 (w2.alloc (.cells #[.int .i64 (keepI (okR a0) (pId a0)), .int .i64 (keepI (okR a0) (pSer a0)), .int .i64 (keepI (okR a0) (pMade a0)), .slice A_g (keepE (okR a0) (pEvs a0)).length C_g] 24)) := (Below.refl _ _).alloc (Nat.le_refl _) _
  have rb_g_0 : (w2.alloc (.cells #[.int .i64 (keepI (okR a0) (pId a0)), .int .i64 (keepI (okR a0) (pSer a0)), .int .i64 (keepI (okR a0) (pMade a0)), .slice A_g (keepE (okR a0) (pEvs a0)).length C_g] 24)).cell? ⟨w2.heap.size, 0, none⟩ = some (.int .i64 (keepI (okR a0) (pId a0))) := by simp
  have rb_g_1 : (w2.alloc (.cells #[.int .i64 (keepI (okR a0) (pId a0)), .int .i64 (keepI (okR a0) (pSer a0)), .int .i64 (keepI (okR a0) (pMade a0)), .slice A_g (keepE (okR a0) (pEvs a0)).length C_g] 24)).cell? ⟨w2.heap.size, 1, none⟩ = some (.int .i64 (keepI (okR a0) (pSer a0))) := by simp
  have rb_g_2 : (w2.alloc (.cells #[.int .i64 (keepI (okR a0) (pId a0)), .int .i64 (keepI (okR a0) (pSer a0)), .int .i64 (keepI (okR a0) (pMade a0)), .slice A_g (keepE (okR a0) (pEvs a0)).length C_g] 24)).cell? ⟨w2.heap.size, 2, none⟩ = some (.int .i64 (keepI (okR a0) (pMade a0))) := by simp
  have rb_g_3 : (w2.alloc (.cells #[.int .i64 (keepI (okR a0) (pId a0)), .int .i64 (keepI (okR a0) (pSer a0)), .int .i64 (keepI (okR a0) (pMade a0)), .slice A_g (keepE (okR a0) (pEvs a0)).length C_g] 24)).cell? ⟨w2.heap.size, 3, none⟩ = some (.slice A_g (keepE (okR a0) (pEvs a0)).length C_g) := by simp
  have rb_gl : w2.heap.size < (w2.alloc (.cells #[.int .i64 (keepI (okR a0) (pId a0)), .int .i64 (keepI (okR a0) (pSer a0)), .int .i64 (keepI (okR a0) (pMade a0)), .slice A_g (keepE (okR a0) (pEvs a0)).length C_g] 24)).heap.size := by simp
  have rb_gz : w.heap.size ≤ w2.heap.size := h2.size
  generalize (w2.alloc (.cells #[.int .i64 (keepI (okR a0) (pId a0)), .int .i64 (keepI (okR a0) (pSer a0)), .int .i64 (keepI (okR a0) (pMade a0)), .slice A_g (keepE (okR a0) (pEvs a0)).length C_g] 24)) = wA2 at *
  have rb_glk := rb_gl
  have hA2 := blw h2 hbA2
  have zA2 := hbA2.size
  replace rb_w_0 : wA2.cell? ⟨w1.heap.size, 0, none⟩ = some (.int .i64 (keepI (okR a0) (pId a0))) := (hbA2.cell (p := ⟨w1.heap.size, 0, none⟩) rb_wl).trans rb_w_0
  replace rb_w_1 : wA2.cell? ⟨w1.heap.size, 1, none⟩ = some (.int .i64 (keepI (okR a0) (pSer a0))) := (hbA2.cell (p := ⟨w1.heap.size, 1, none⟩) rb_wl).trans rb_w_1
  replace rb_w_2 : wA2.cell? ⟨w1.heap.size, 2, none⟩ = some (.int .i64 (keepI (okR a0) (pMade a0))) := (hbA2.cell (p := ⟨w1.heap.size, 2, none⟩) rb_wl).trans rb_w_2
  replace rb_w_3 : wA2.cell? ⟨w1.heap.size, 3, none⟩ = some (.slice A_w (keepE (okR a0) (pEvs a0)).length C_w) := (hbA2.cell (p := ⟨w1.heap.size, 3, none⟩) rb_wl).trans rb_w_3
  replace rb_wl := Nat.lt_of_lt_of_le rb_wl hbA2.size
  replace o_w := o_w.below (hbA2.mono ble_w)
  replace ble_w := Nat.le_trans ble_w hbA2.size
  replace o_g := o_g.on hbA2
  refine (eqRecord_any _ _ _ _ _ _ _ (keepE (okR a0) (pEvs a0)) _ (o_g.ls encEv_len) (o_w.more ble_w) (by have := keepE_le a0; omega)).mono ?_
  rintro e w3 ⟨rfl, hb3⟩
  have h3 := blw hA2 hb3
  have z3 := hb3.size
  replace rb_w_0 : w3.cell? ⟨w1.heap.size, 0, none⟩ = some (.int .i64 (keepI (okR a0) (pId a0))) := (hb3.cell (p := ⟨w1.heap.size, 0, none⟩) rb_wl).trans rb_w_0
  replace rb_w_1 : w3.cell? ⟨w1.heap.size, 1, none⟩ = some (.int .i64 (keepI (okR a0) (pSer a0))) := (hb3.cell (p := ⟨w1.heap.size, 1, none⟩) rb_wl).trans rb_w_1
  replace rb_w_2 : w3.cell? ⟨w1.heap.size, 2, none⟩ = some (.int .i64 (keepI (okR a0) (pMade a0))) := (hb3.cell (p := ⟨w1.heap.size, 2, none⟩) rb_wl).trans rb_w_2
  replace rb_w_3 : w3.cell? ⟨w1.heap.size, 3, none⟩ = some (.slice A_w (keepE (okR a0) (pEvs a0)).length C_w) := (hb3.cell (p := ⟨w1.heap.size, 3, none⟩) rb_wl).trans rb_w_3
  replace rb_wl := Nat.lt_of_lt_of_le rb_wl hb3.size
  replace rb_g_0 : w3.cell? ⟨w2.heap.size, 0, none⟩ = some (.int .i64 (keepI (okR a0) (pId a0))) := (hb3.cell (p := ⟨w2.heap.size, 0, none⟩) rb_gl).trans rb_g_0
  replace rb_g_1 : w3.cell? ⟨w2.heap.size, 1, none⟩ = some (.int .i64 (keepI (okR a0) (pSer a0))) := (hb3.cell (p := ⟨w2.heap.size, 1, none⟩) rb_gl).trans rb_g_1
  replace rb_g_2 : w3.cell? ⟨w2.heap.size, 2, none⟩ = some (.int .i64 (keepI (okR a0) (pMade a0))) := (hb3.cell (p := ⟨w2.heap.size, 2, none⟩) rb_gl).trans rb_g_2
  replace rb_g_3 : w3.cell? ⟨w2.heap.size, 3, none⟩ = some (.slice A_g (keepE (okR a0) (pEvs a0)).length C_g) := (hb3.cell (p := ⟨w2.heap.size, 3, none⟩) rb_gl).trans rb_g_3
  replace rb_gl := Nat.lt_of_lt_of_le rb_gl hb3.size
  replace o_w := o_w.below (hb3.mono ble_w)
  replace ble_w := Nat.le_trans ble_w hb3.size
  replace o_g := o_g.on hb3
  have hr_g := o_g.row1
  go_wp2_with fail
  refine (markRecord_any _ _ _ _ _ _ _ _ hr_g (by have := keepE_le a0; omega) (by omega) (by omega)).mono ?_
  rintro e w4 ⟨rfl, hw4, o_m⟩
  have hS4 : ∀ b, blkOf A_g b → Bg ≤ b := fun b hb => (o_g.block hb).1
  have h4 := h3.trans (hw4.below h3.size (fun b hb => Nat.le_trans gw_g (hS4 b hb)))
  have z4 := hw4.size
  replace rb_w_0 : w4.cell? ⟨w1.heap.size, 0, none⟩ = some (.int .i64 (keepI (okR a0) (pId a0))) := (hw4.cell (k := w1.heap.size) (o := 0) rb_wl (fun hS => by have := hS4 _ hS; have := ub_g _ hS; omega)).trans rb_w_0
  replace rb_w_1 : w4.cell? ⟨w1.heap.size, 1, none⟩ = some (.int .i64 (keepI (okR a0) (pSer a0))) := (hw4.cell (k := w1.heap.size) (o := 1) rb_wl (fun hS => by have := hS4 _ hS; have := ub_g _ hS; omega)).trans rb_w_1
  replace rb_w_2 : w4.cell? ⟨w1.heap.size, 2, none⟩ = some (.int .i64 (keepI (okR a0) (pMade a0))) := (hw4.cell (k := w1.heap.size) (o := 2) rb_wl (fun hS => by have := hS4 _ hS; have := ub_g _ hS; omega)).trans rb_w_2
  replace rb_w_3 : w4.cell? ⟨w1.heap.size, 3, none⟩ = some (.slice A_w (keepE (okR a0) (pEvs a0)).length C_w) := (hw4.cell (k := w1.heap.size) (o := 3) rb_wl (fun hS => by have := hS4 _ hS; have := ub_g _ hS; omega)).trans rb_w_3
  replace rb_wl := Nat.lt_of_lt_of_le rb_wl hw4.size
  replace rb_g_0 : w4.cell? ⟨w2.heap.size, 0, none⟩ = some (.int .i64 (keepI (okR a0) (pId a0))) := (hw4.cell (k := w2.heap.size) (o := 0) rb_gl (fun hS => by have := hS4 _ hS; have := ub_g _ hS; omega)).trans rb_g_0
  replace rb_g_1 : w4.cell? ⟨w2.heap.size, 1, none⟩ = some (.int .i64 (keepI (okR a0) (pSer a0))) := (hw4.cell (k := w2.heap.size) (o := 1) rb_gl (fun hS => by have := hS4 _ hS; have := ub_g _ hS; omega)).trans rb_g_1
  replace rb_g_2 : w4.cell? ⟨w2.heap.size, 2, none⟩ = some (.int .i64 (keepI (okR a0) (pMade a0))) := (hw4.cell (k := w2.heap.size) (o := 2) rb_gl (fun hS => by have := hS4 _ hS; have := ub_g _ hS; omega)).trans rb_g_2
  replace rb_g_3 : w4.cell? ⟨w2.heap.size, 3, none⟩ = some (.slice A_g (keepE (okR a0) (pEvs a0)).length C_g) := (hw4.cell (k := w2.heap.size) (o := 3) rb_gl (fun hS => by have := hS4 _ hS; have := ub_g _ hS; omega)).trans rb_g_3
  replace rb_gl := Nat.lt_of_lt_of_le rb_gl hw4.size
  replace o_w := o_w.wr hw4 (fun b hb => by have := hS4 b hb; omega) ble_w
  replace ble_w := Nat.le_trans ble_w hw4.size
  go_wp2_with fail
  refine (heldRecord_any _ _ _ _ _ _ _ _ o_m (by have := keepE_le a0; omega) (by omega) (by omega)).mono ?_
  rintro e w5 ⟨rfl, hb5⟩
  have h5 := blw h4 hb5
  have z5 := hb5.size
  replace rb_w_0 : w5.cell? ⟨w1.heap.size, 0, none⟩ = some (.int .i64 (keepI (okR a0) (pId a0))) := (hb5.cell (p := ⟨w1.heap.size, 0, none⟩) rb_wl).trans rb_w_0
  replace rb_w_1 : w5.cell? ⟨w1.heap.size, 1, none⟩ = some (.int .i64 (keepI (okR a0) (pSer a0))) := (hb5.cell (p := ⟨w1.heap.size, 1, none⟩) rb_wl).trans rb_w_1
  replace rb_w_2 : w5.cell? ⟨w1.heap.size, 2, none⟩ = some (.int .i64 (keepI (okR a0) (pMade a0))) := (hb5.cell (p := ⟨w1.heap.size, 2, none⟩) rb_wl).trans rb_w_2
  replace rb_w_3 : w5.cell? ⟨w1.heap.size, 3, none⟩ = some (.slice A_w (keepE (okR a0) (pEvs a0)).length C_w) := (hb5.cell (p := ⟨w1.heap.size, 3, none⟩) rb_wl).trans rb_w_3
  replace rb_wl := Nat.lt_of_lt_of_le rb_wl hb5.size
  replace rb_g_0 : w5.cell? ⟨w2.heap.size, 0, none⟩ = some (.int .i64 (keepI (okR a0) (pId a0))) := (hb5.cell (p := ⟨w2.heap.size, 0, none⟩) rb_gl).trans rb_g_0
  replace rb_g_1 : w5.cell? ⟨w2.heap.size, 1, none⟩ = some (.int .i64 (keepI (okR a0) (pSer a0))) := (hb5.cell (p := ⟨w2.heap.size, 1, none⟩) rb_gl).trans rb_g_1
  replace rb_g_2 : w5.cell? ⟨w2.heap.size, 2, none⟩ = some (.int .i64 (keepI (okR a0) (pMade a0))) := (hb5.cell (p := ⟨w2.heap.size, 2, none⟩) rb_gl).trans rb_g_2
  replace rb_g_3 : w5.cell? ⟨w2.heap.size, 3, none⟩ = some (.slice A_g (keepE (okR a0) (pEvs a0)).length C_g) := (hb5.cell (p := ⟨w2.heap.size, 3, none⟩) rb_gl).trans rb_g_3
  replace rb_gl := Nat.lt_of_lt_of_le rb_gl hb5.size
  replace o_w := o_w.below (hb5.mono ble_w)
  replace ble_w := Nat.le_trans ble_w hb5.size
  replace o_m := (o_m.below hb5).more hb5.size
  go_wp2_with fail
  refine (c_impl_ParseRecord _ _ hsz0 (tab_below ht h5) (ml_below hm h5)).mono ?_
  rintro e w6 ⟨A_h, C_h, rfl, o_h, hb6⟩
  have h6 := blw h5 hb6
  have z6 := hb6.size
  replace rb_w_0 : w6.cell? ⟨w1.heap.size, 0, none⟩ = some (.int .i64 (keepI (okR a0) (pId a0))) := (hb6.cell (p := ⟨w1.heap.size, 0, none⟩) rb_wl).trans rb_w_0
  replace rb_w_1 : w6.cell? ⟨w1.heap.size, 1, none⟩ = some (.int .i64 (keepI (okR a0) (pSer a0))) := (hb6.cell (p := ⟨w1.heap.size, 1, none⟩) rb_wl).trans rb_w_1
  replace rb_w_2 : w6.cell? ⟨w1.heap.size, 2, none⟩ = some (.int .i64 (keepI (okR a0) (pMade a0))) := (hb6.cell (p := ⟨w1.heap.size, 2, none⟩) rb_wl).trans rb_w_2
  replace rb_w_3 : w6.cell? ⟨w1.heap.size, 3, none⟩ = some (.slice A_w (keepE (okR a0) (pEvs a0)).length C_w) := (hb6.cell (p := ⟨w1.heap.size, 3, none⟩) rb_wl).trans rb_w_3
  replace rb_wl := Nat.lt_of_lt_of_le rb_wl hb6.size
  replace rb_g_0 : w6.cell? ⟨w2.heap.size, 0, none⟩ = some (.int .i64 (keepI (okR a0) (pId a0))) := (hb6.cell (p := ⟨w2.heap.size, 0, none⟩) rb_gl).trans rb_g_0
  replace rb_g_1 : w6.cell? ⟨w2.heap.size, 1, none⟩ = some (.int .i64 (keepI (okR a0) (pSer a0))) := (hb6.cell (p := ⟨w2.heap.size, 1, none⟩) rb_gl).trans rb_g_1
  replace rb_g_2 : w6.cell? ⟨w2.heap.size, 2, none⟩ = some (.int .i64 (keepI (okR a0) (pMade a0))) := (hb6.cell (p := ⟨w2.heap.size, 2, none⟩) rb_gl).trans rb_g_2
  replace rb_g_3 : w6.cell? ⟨w2.heap.size, 3, none⟩ = some (.slice A_g (keepE (okR a0) (pEvs a0)).length C_g) := (hb6.cell (p := ⟨w2.heap.size, 3, none⟩) rb_gl).trans rb_g_3
  replace rb_gl := Nat.lt_of_lt_of_le rb_gl hb6.size
  replace o_w := o_w.below (hb6.mono ble_w)
  replace ble_w := Nat.le_trans ble_w hb6.size
  replace o_m := (o_m.below hb6).more hb6.size
  go_wp2_with fail
  have hbA3 : Below w6.heap.size w6 (w6.alloc (.cells #[.int .i64 (keepI (okR a0) (pId a0)), .int .i64 (keepI (okR a0) (pSer a0)), .int .i64 (keepI (okR a0) (pMade a0)), .slice A_h (keepE (okR a0) (pEvs a0)).length C_h] 24)) := (Below.refl _ _).alloc (Nat.le_refl _) _
  have rb_h_0 : (w6.alloc (.cells #[.int .i64 (keepI (okR a0) (pId a0)), .int .i64 (keepI (okR a0) (pSer a0)), .int .i64 (keepI (okR a0) (pMade a0)), .slice A_h (keepE (okR a0) (pEvs a0)).length C_h] 24)).cell? ⟨w6.heap.size, 0, none⟩ = some (.int .i64 (keepI (okR a0) (pId a0))) := by simp
  have rb_h_1 : (w6.alloc (.cells #[.int .i64 (keepI (okR a0) (pId a0)), .int .i64 (keepI (okR a0) (pSer a0)), .int .i64 (keepI (okR a0) (pMade a0)), .slice A_h (keepE (okR a0) (pEvs a0)).length C_h] 24)).cell? ⟨w6.heap.size, 1, none⟩ = some (.int .i64 (keepI (okR a0) (pSer a0))) := by simp
  have rb_h_2 : (w6.alloc (.cells #[.int .i64 (keepI (okR a0) (pId a0)), .int .i64 (keepI (okR a0) (pSer a0)), .int .i64 (keepI (okR a0) (pMade a0)), .slice A_h (keepE (okR a0) (pEvs a0)).length C_h] 24)).cell? ⟨w6.heap.size, 2, none⟩ = some (.int .i64 (keepI (okR a0) (pMade a0))) := by simp
  have rb_h_3 : (w6.alloc (.cells #[.int .i64 (keepI (okR a0) (pId a0)), .int .i64 (keepI (okR a0) (pSer a0)), .int .i64 (keepI (okR a0) (pMade a0)), .slice A_h (keepE (okR a0) (pEvs a0)).length C_h] 24)).cell? ⟨w6.heap.size, 3, none⟩ = some (.slice A_h (keepE (okR a0) (pEvs a0)).length C_h) := by simp
  have rb_hl : w6.heap.size < (w6.alloc (.cells #[.int .i64 (keepI (okR a0) (pId a0)), .int .i64 (keepI (okR a0) (pSer a0)), .int .i64 (keepI (okR a0) (pMade a0)), .slice A_h (keepE (okR a0) (pEvs a0)).length C_h] 24)).heap.size := by simp
  have rb_hz : w.heap.size ≤ w6.heap.size := h6.size
  generalize (w6.alloc (.cells #[.int .i64 (keepI (okR a0) (pId a0)), .int .i64 (keepI (okR a0) (pSer a0)), .int .i64 (keepI (okR a0) (pMade a0)), .slice A_h (keepE (okR a0) (pEvs a0)).length C_h] 24)) = wA3 at *
  have rb_hlk := rb_hl
  have hA3 := blw h6 hbA3
  have zA3 := hbA3.size
  replace rb_w_0 : wA3.cell? ⟨w1.heap.size, 0, none⟩ = some (.int .i64 (keepI (okR a0) (pId a0))) := (hbA3.cell (p := ⟨w1.heap.size, 0, none⟩) rb_wl).trans rb_w_0
  replace rb_w_1 : wA3.cell? ⟨w1.heap.size, 1, none⟩ = some (.int .i64 (keepI (okR a0) (pSer a0))) := (hbA3.cell (p := ⟨w1.heap.size, 1, none⟩) rb_wl).trans rb_w_1
  replace rb_w_2 : wA3.cell? ⟨w1.heap.size, 2, none⟩ = some (.int .i64 (keepI (okR a0) (pMade a0))) := (hbA3.cell (p := ⟨w1.heap.size, 2, none⟩) rb_wl).trans rb_w_2
  replace rb_w_3 : wA3.cell? ⟨w1.heap.size, 3, none⟩ = some (.slice A_w (keepE (okR a0) (pEvs a0)).length C_w) := (hbA3.cell (p := ⟨w1.heap.size, 3, none⟩) rb_wl).trans rb_w_3
  replace rb_wl := Nat.lt_of_lt_of_le rb_wl hbA3.size
  replace rb_g_0 : wA3.cell? ⟨w2.heap.size, 0, none⟩ = some (.int .i64 (keepI (okR a0) (pId a0))) := (hbA3.cell (p := ⟨w2.heap.size, 0, none⟩) rb_gl).trans rb_g_0
  replace rb_g_1 : wA3.cell? ⟨w2.heap.size, 1, none⟩ = some (.int .i64 (keepI (okR a0) (pSer a0))) := (hbA3.cell (p := ⟨w2.heap.size, 1, none⟩) rb_gl).trans rb_g_1
  replace rb_g_2 : wA3.cell? ⟨w2.heap.size, 2, none⟩ = some (.int .i64 (keepI (okR a0) (pMade a0))) := (hbA3.cell (p := ⟨w2.heap.size, 2, none⟩) rb_gl).trans rb_g_2
  replace rb_g_3 : wA3.cell? ⟨w2.heap.size, 3, none⟩ = some (.slice A_g (keepE (okR a0) (pEvs a0)).length C_g) := (hbA3.cell (p := ⟨w2.heap.size, 3, none⟩) rb_gl).trans rb_g_3
  replace rb_gl := Nat.lt_of_lt_of_le rb_gl hbA3.size
  replace o_w := o_w.below (hbA3.mono ble_w)
  replace ble_w := Nat.le_trans ble_w hbA3.size
  replace o_m := (o_m.below hbA3).more hbA3.size
  replace o_h := o_h.on hbA3
  refine (eqRecord_any _ _ _ _ _ _ _ (keepE (okR a0) (pEvs a0)) _ (o_h.ls encEv_len) (o_w.more ble_w) (by have := keepE_le a0; omega)).mono ?_
  rintro e w7 ⟨rfl, hb7⟩
  have h7 := blw hA3 hb7
  have z7 := hb7.size
  replace rb_w_0 : w7.cell? ⟨w1.heap.size, 0, none⟩ = some (.int .i64 (keepI (okR a0) (pId a0))) := (hb7.cell (p := ⟨w1.heap.size, 0, none⟩) rb_wl).trans rb_w_0
  replace rb_w_1 : w7.cell? ⟨w1.heap.size, 1, none⟩ = some (.int .i64 (keepI (okR a0) (pSer a0))) := (hb7.cell (p := ⟨w1.heap.size, 1, none⟩) rb_wl).trans rb_w_1
  replace rb_w_2 : w7.cell? ⟨w1.heap.size, 2, none⟩ = some (.int .i64 (keepI (okR a0) (pMade a0))) := (hb7.cell (p := ⟨w1.heap.size, 2, none⟩) rb_wl).trans rb_w_2
  replace rb_w_3 : w7.cell? ⟨w1.heap.size, 3, none⟩ = some (.slice A_w (keepE (okR a0) (pEvs a0)).length C_w) := (hb7.cell (p := ⟨w1.heap.size, 3, none⟩) rb_wl).trans rb_w_3
  replace rb_wl := Nat.lt_of_lt_of_le rb_wl hb7.size
  replace rb_g_0 : w7.cell? ⟨w2.heap.size, 0, none⟩ = some (.int .i64 (keepI (okR a0) (pId a0))) := (hb7.cell (p := ⟨w2.heap.size, 0, none⟩) rb_gl).trans rb_g_0
  replace rb_g_1 : w7.cell? ⟨w2.heap.size, 1, none⟩ = some (.int .i64 (keepI (okR a0) (pSer a0))) := (hb7.cell (p := ⟨w2.heap.size, 1, none⟩) rb_gl).trans rb_g_1
  replace rb_g_2 : w7.cell? ⟨w2.heap.size, 2, none⟩ = some (.int .i64 (keepI (okR a0) (pMade a0))) := (hb7.cell (p := ⟨w2.heap.size, 2, none⟩) rb_gl).trans rb_g_2
  replace rb_g_3 : w7.cell? ⟨w2.heap.size, 3, none⟩ = some (.slice A_g (keepE (okR a0) (pEvs a0)).length C_g) := (hb7.cell (p := ⟨w2.heap.size, 3, none⟩) rb_gl).trans rb_g_3
  replace rb_gl := Nat.lt_of_lt_of_le rb_gl hb7.size
  replace rb_h_0 : w7.cell? ⟨w6.heap.size, 0, none⟩ = some (.int .i64 (keepI (okR a0) (pId a0))) := (hb7.cell (p := ⟨w6.heap.size, 0, none⟩) rb_hl).trans rb_h_0
  replace rb_h_1 : w7.cell? ⟨w6.heap.size, 1, none⟩ = some (.int .i64 (keepI (okR a0) (pSer a0))) := (hb7.cell (p := ⟨w6.heap.size, 1, none⟩) rb_hl).trans rb_h_1
  replace rb_h_2 : w7.cell? ⟨w6.heap.size, 2, none⟩ = some (.int .i64 (keepI (okR a0) (pMade a0))) := (hb7.cell (p := ⟨w6.heap.size, 2, none⟩) rb_hl).trans rb_h_2
  replace rb_h_3 : w7.cell? ⟨w6.heap.size, 3, none⟩ = some (.slice A_h (keepE (okR a0) (pEvs a0)).length C_h) := (hb7.cell (p := ⟨w6.heap.size, 3, none⟩) rb_hl).trans rb_h_3
  replace rb_hl := Nat.lt_of_lt_of_le rb_hl hb7.size
  replace o_w := o_w.below (hb7.mono ble_w)
  replace ble_w := Nat.le_trans ble_w hb7.size
  replace o_m := (o_m.below hb7).more hb7.size
  replace o_h := o_h.on hb7
  go_wp2_with fail
  refine (heldRecord_any _ _ _ _ _ _ _ _ o_m (by have := keepE_le a0; omega) (by omega) (by omega)).mono ?_
  rintro e w8 ⟨rfl, hb8⟩
  have h8 := blw h7 hb8
  have z8 := hb8.size
  replace rb_w_0 : w8.cell? ⟨w1.heap.size, 0, none⟩ = some (.int .i64 (keepI (okR a0) (pId a0))) := (hb8.cell (p := ⟨w1.heap.size, 0, none⟩) rb_wl).trans rb_w_0
  replace rb_w_1 : w8.cell? ⟨w1.heap.size, 1, none⟩ = some (.int .i64 (keepI (okR a0) (pSer a0))) := (hb8.cell (p := ⟨w1.heap.size, 1, none⟩) rb_wl).trans rb_w_1
  replace rb_w_2 : w8.cell? ⟨w1.heap.size, 2, none⟩ = some (.int .i64 (keepI (okR a0) (pMade a0))) := (hb8.cell (p := ⟨w1.heap.size, 2, none⟩) rb_wl).trans rb_w_2
  replace rb_w_3 : w8.cell? ⟨w1.heap.size, 3, none⟩ = some (.slice A_w (keepE (okR a0) (pEvs a0)).length C_w) := (hb8.cell (p := ⟨w1.heap.size, 3, none⟩) rb_wl).trans rb_w_3
  replace rb_wl := Nat.lt_of_lt_of_le rb_wl hb8.size
  replace rb_g_0 : w8.cell? ⟨w2.heap.size, 0, none⟩ = some (.int .i64 (keepI (okR a0) (pId a0))) := (hb8.cell (p := ⟨w2.heap.size, 0, none⟩) rb_gl).trans rb_g_0
  replace rb_g_1 : w8.cell? ⟨w2.heap.size, 1, none⟩ = some (.int .i64 (keepI (okR a0) (pSer a0))) := (hb8.cell (p := ⟨w2.heap.size, 1, none⟩) rb_gl).trans rb_g_1
  replace rb_g_2 : w8.cell? ⟨w2.heap.size, 2, none⟩ = some (.int .i64 (keepI (okR a0) (pMade a0))) := (hb8.cell (p := ⟨w2.heap.size, 2, none⟩) rb_gl).trans rb_g_2
  replace rb_g_3 : w8.cell? ⟨w2.heap.size, 3, none⟩ = some (.slice A_g (keepE (okR a0) (pEvs a0)).length C_g) := (hb8.cell (p := ⟨w2.heap.size, 3, none⟩) rb_gl).trans rb_g_3
  replace rb_gl := Nat.lt_of_lt_of_le rb_gl hb8.size
  replace rb_h_0 : w8.cell? ⟨w6.heap.size, 0, none⟩ = some (.int .i64 (keepI (okR a0) (pId a0))) := (hb8.cell (p := ⟨w6.heap.size, 0, none⟩) rb_hl).trans rb_h_0
  replace rb_h_1 : w8.cell? ⟨w6.heap.size, 1, none⟩ = some (.int .i64 (keepI (okR a0) (pSer a0))) := (hb8.cell (p := ⟨w6.heap.size, 1, none⟩) rb_hl).trans rb_h_1
  replace rb_h_2 : w8.cell? ⟨w6.heap.size, 2, none⟩ = some (.int .i64 (keepI (okR a0) (pMade a0))) := (hb8.cell (p := ⟨w6.heap.size, 2, none⟩) rb_hl).trans rb_h_2
  replace rb_h_3 : w8.cell? ⟨w6.heap.size, 3, none⟩ = some (.slice A_h (keepE (okR a0) (pEvs a0)).length C_h) := (hb8.cell (p := ⟨w6.heap.size, 3, none⟩) rb_hl).trans rb_h_3
  replace rb_hl := Nat.lt_of_lt_of_le rb_hl hb8.size
  replace o_w := o_w.below (hb8.mono ble_w)
  replace ble_w := Nat.le_trans ble_w hb8.size
  replace o_m := (o_m.below hb8).more hb8.size
  replace o_h := o_h.on hb8
  go_wp2_with fail
  go_ret
  exact ⟨rfl, h8⟩

end Go.Proofs.YtopfcfedcmpamaaDoor
