/- The law of DropEvent, walked. -/
import Derived.Test.YtjbklopkginegaaW2f
import Derived.Deep.RegionHeld3
namespace Go.Proofs.Ytjbklopkginegaa
set_option linter.unusedVariables false
set_option linter.unusedSimpArgs false
open Go.RowKit
attribute [local go_sem] Aft.cell

set_option maxHeartbeats 4000000 in
theorem walk_FnExactDropEvent (a0 : Rec) (a1 : Int) (w : World) (ok0 : okRec w a0) (ok1 : Rng a1) :
    Calls Try.prog 6 #[.agg #[.int .i64 a0.id, .int .i64 a0.series, .int .i64 a0.made, .slice a0.A a0.evs.length a0.c], .int .i64 a1] w fun e w' => e = .returned (.bool true) ∧ Below w.heap.size w w' := by
  obtain ⟨hrg0a, hrg0b, hrg0c, hl0, hok0, hmx0⟩ := ok0
  go_enter Try.func6, Try.ntmps6
  go_wp2_with fail
  have h0 : Below w.heap.size w (w.alloc (.cells #[.int .i64 a0.id, .int .i64 a0.series, .int .i64 a0.made, .slice a0.A a0.evs.length a0.c] 24)) := (blw_alloc (Below.refl w.heap.size w) _)
  have bx0_0 : (w.alloc (.cells #[.int .i64 a0.id, .int .i64 a0.series, .int .i64 a0.made, .slice a0.A a0.evs.length a0.c] 24)).cell? ⟨w.heap.size, 0, none⟩ = some (.int .i64 a0.id) := by simp [World.cell?_alloc_lt]
  have bx0_1 : (w.alloc (.cells #[.int .i64 a0.id, .int .i64 a0.series, .int .i64 a0.made, .slice a0.A a0.evs.length a0.c] 24)).cell? ⟨w.heap.size, 1, none⟩ = some (.int .i64 a0.series) := by simp [World.cell?_alloc_lt]
  have bx0_2 : (w.alloc (.cells #[.int .i64 a0.id, .int .i64 a0.series, .int .i64 a0.made, .slice a0.A a0.evs.length a0.c] 24)).cell? ⟨w.heap.size, 2, none⟩ = some (.int .i64 a0.made) := by simp [World.cell?_alloc_lt]
  have bx0_3 : (w.alloc (.cells #[.int .i64 a0.id, .int .i64 a0.series, .int .i64 a0.made, .slice a0.A a0.evs.length a0.c] 24)).cell? ⟨w.heap.size, 3, none⟩ = some (.slice a0.A a0.evs.length a0.c) := by simp [World.cell?_alloc_lt]
  have bl0 : w.heap.size < (w.alloc (.cells #[.int .i64 a0.id, .int .i64 a0.series, .int .i64 a0.made, .slice a0.A a0.evs.length a0.c] 24)).heap.size := by simp; try omega
  generalize (w.alloc (.cells #[.int .i64 a0.id, .int .i64 a0.series, .int .i64 a0.made, .slice a0.A a0.evs.length a0.c] 24)) = W0 at *
  have bl0k := bl0
  go_wp2_with fail
  refine (szRecord_sz _ _ _ _ _ _ _ _ hmx0 (by omega) (by omega)).mono ?_
  rintro e w1 ⟨r1, rfl, hra1, hrb1, hrp1, hb1⟩
  have h1 := blw h0 hb1
  have z1 := hb1.size
  replace bx0_0 : w1.cell? ⟨w.heap.size, 0, none⟩ = some (.int .i64 a0.id) := (hb1.cell (p := ⟨w.heap.size, 0, none⟩) bl0).trans bx0_0
  replace bx0_1 : w1.cell? ⟨w.heap.size, 1, none⟩ = some (.int .i64 a0.series) := (hb1.cell (p := ⟨w.heap.size, 1, none⟩) bl0).trans bx0_1
  replace bx0_2 : w1.cell? ⟨w.heap.size, 2, none⟩ = some (.int .i64 a0.made) := (hb1.cell (p := ⟨w.heap.size, 2, none⟩) bl0).trans bx0_2
  replace bx0_3 : w1.cell? ⟨w.heap.size, 3, none⟩ = some (.slice a0.A a0.evs.length a0.c) := (hb1.cell (p := ⟨w.heap.size, 3, none⟩) bl0).trans bx0_3
  replace bl0 := Nat.lt_of_lt_of_le bl0 hb1.size
  by_cases hneg1 : r1 < 0
  · clear hrp1
    go_wp2_with fail
    go_ret
    exact ⟨rfl, h1⟩
  have hn0 := hrp1 (by omega)
  clear hrp1
  have hnn1 : ¬ r1 < 0 := hneg1
  go_wp2_with fail
  refine (toRecord_any _ _ _ _ _ a0.evs _ ((hl0.below h1).more h1.size) hn0).mono ?_
  rintro e w2 ⟨g_s0, gl_s0, rfl, o_s0, hb2⟩
  have h2 := blw h1 hb2
  have z2 := hb2.size
  replace bx0_0 : w2.cell? ⟨w.heap.size, 0, none⟩ = some (.int .i64 a0.id) := (hb2.cell (p := ⟨w.heap.size, 0, none⟩) bl0).trans bx0_0
  replace bx0_1 : w2.cell? ⟨w.heap.size, 1, none⟩ = some (.int .i64 a0.series) := (hb2.cell (p := ⟨w.heap.size, 1, none⟩) bl0).trans bx0_1
  replace bx0_2 : w2.cell? ⟨w.heap.size, 2, none⟩ = some (.int .i64 a0.made) := (hb2.cell (p := ⟨w.heap.size, 2, none⟩) bl0).trans bx0_2
  replace bx0_3 : w2.cell? ⟨w.heap.size, 3, none⟩ = some (.slice a0.A a0.evs.length a0.c) := (hb2.cell (p := ⟨w.heap.size, 3, none⟩) bl0).trans bx0_3
  replace bl0 := Nat.lt_of_lt_of_le bl0 hb2.size
  have y_s0 := o_s0.lt
  go_wp2_with fail
  refine (c_spec_DropEvent _ _ _ _ _ a0.evs _ _ (o_s0.ls encEv_len) hn0).mono ?_
  rintro e w3 ⟨A_w, C_w, rfl, o_w, hb3⟩
  have h3 := blw h2 hb3
  have z3 := hb3.size
  replace bx0_0 : w3.cell? ⟨w.heap.size, 0, none⟩ = some (.int .i64 a0.id) := (hb3.cell (p := ⟨w.heap.size, 0, none⟩) bl0).trans bx0_0
  replace bx0_1 : w3.cell? ⟨w.heap.size, 1, none⟩ = some (.int .i64 a0.series) := (hb3.cell (p := ⟨w.heap.size, 1, none⟩) bl0).trans bx0_1
  replace bx0_2 : w3.cell? ⟨w.heap.size, 2, none⟩ = some (.int .i64 a0.made) := (hb3.cell (p := ⟨w.heap.size, 2, none⟩) bl0).trans bx0_2
  replace bx0_3 : w3.cell? ⟨w.heap.size, 3, none⟩ = some (.slice a0.A a0.evs.length a0.c) := (hb3.cell (p := ⟨w.heap.size, 3, none⟩) bl0).trans bx0_3
  replace bl0 := Nat.lt_of_lt_of_le bl0 hb3.size
  replace o_s0 := o_s0.below hb3 o_s0.lt
  have bk_w : ∀ b, blkOf A_w b → w2.heap.size ≤ b := fun b hb => (o_w.block hb).1
  replace o_w := o_w.ls encEv_len
  have ble_w : w3.heap.size ≤ w3.heap.size := Nat.le_refl _
  have Bw : ∃ n, n = w3.heap.size := ⟨_, rfl⟩
  obtain ⟨Bw, hBw⟩ := Bw
  rw [← hBw] at o_w
  have ble_w : Bw ≤ w3.heap.size := Nat.le_of_eq hBw
  have bw0 := ble_w
  have HBw := Lib.hid hBw
  clear hBw bk_w
  go_wp2_with fail
  have hbA1 : Below w3.heap.size w3 (w3.alloc (.cells #[.int .i64 (keepI (dropEB a0.id a0.series a0.made a0.evs a1) a0.id), .int .i64 (keepI (dropEB a0.id a0.series a0.made a0.evs a1) a0.series), .int .i64 (keepI (dropEB a0.id a0.series a0.made a0.evs a1) a0.made), .slice A_w (dropEL a0.id a0.series a0.made a0.evs a1).length C_w] 30)) := (Below.refl _ _).alloc (Nat.le_refl _) _
  have rb_w_0 : (w3.alloc (.cells #[.int .i64 (keepI (dropEB a0.id a0.series a0.made a0.evs a1) a0.id), .int .i64 (keepI (dropEB a0.id a0.series a0.made a0.evs a1) a0.series), .int .i64 (keepI (dropEB a0.id a0.series a0.made a0.evs a1) a0.made), .slice A_w (dropEL a0.id a0.series a0.made a0.evs a1).length C_w] 30)).cell? ⟨w3.heap.size, 0, none⟩ = some (.int .i64 (keepI (dropEB a0.id a0.series a0.made a0.evs a1) a0.id)) := by simp
  have rb_w_1 : (w3.alloc (.cells #[.int .i64 (keepI (dropEB a0.id a0.series a0.made a0.evs a1) a0.id), .int .i64 (keepI (dropEB a0.id a0.series a0.made a0.evs a1) a0.series), .int .i64 (keepI (dropEB a0.id a0.series a0.made a0.evs a1) a0.made), .slice A_w (dropEL a0.id a0.series a0.made a0.evs a1).length C_w] 30)).cell? ⟨w3.heap.size, 1, none⟩ = some (.int .i64 (keepI (dropEB a0.id a0.series a0.made a0.evs a1) a0.series)) := by simp
  have rb_w_2 : (w3.alloc (.cells #[.int .i64 (keepI (dropEB a0.id a0.series a0.made a0.evs a1) a0.id), .int .i64 (keepI (dropEB a0.id a0.series a0.made a0.evs a1) a0.series), .int .i64 (keepI (dropEB a0.id a0.series a0.made a0.evs a1) a0.made), .slice A_w (dropEL a0.id a0.series a0.made a0.evs a1).length C_w] 30)).cell? ⟨w3.heap.size, 2, none⟩ = some (.int .i64 (keepI (dropEB a0.id a0.series a0.made a0.evs a1) a0.made)) := by simp
  have rb_w_3 : (w3.alloc (.cells #[.int .i64 (keepI (dropEB a0.id a0.series a0.made a0.evs a1) a0.id), .int .i64 (keepI (dropEB a0.id a0.series a0.made a0.evs a1) a0.series), .int .i64 (keepI (dropEB a0.id a0.series a0.made a0.evs a1) a0.made), .slice A_w (dropEL a0.id a0.series a0.made a0.evs a1).length C_w] 30)).cell? ⟨w3.heap.size, 3, none⟩ = some (.slice A_w (dropEL a0.id a0.series a0.made a0.evs a1).length C_w) := by simp
  have rb_wl : w3.heap.size < (w3.alloc (.cells #[.int .i64 (keepI (dropEB a0.id a0.series a0.made a0.evs a1) a0.id), .int .i64 (keepI (dropEB a0.id a0.series a0.made a0.evs a1) a0.series), .int .i64 (keepI (dropEB a0.id a0.series a0.made a0.evs a1) a0.made), .slice A_w (dropEL a0.id a0.series a0.made a0.evs a1).length C_w] 30)).heap.size := by simp
  have rb_wz : w.heap.size ≤ w3.heap.size := h3.size
  generalize (w3.alloc (.cells #[.int .i64 (keepI (dropEB a0.id a0.series a0.made a0.evs a1) a0.id), .int .i64 (keepI (dropEB a0.id a0.series a0.made a0.evs a1) a0.series), .int .i64 (keepI (dropEB a0.id a0.series a0.made a0.evs a1) a0.made), .slice A_w (dropEL a0.id a0.series a0.made a0.evs a1).length C_w] 30)) = wA1 at *
  have rb_wlk := rb_wl
  have hA1 := blw h3 hbA1
  have zA1 := hbA1.size
  replace bx0_0 : wA1.cell? ⟨w.heap.size, 0, none⟩ = some (.int .i64 a0.id) := (hbA1.cell (p := ⟨w.heap.size, 0, none⟩) bl0).trans bx0_0
  replace bx0_1 : wA1.cell? ⟨w.heap.size, 1, none⟩ = some (.int .i64 a0.series) := (hbA1.cell (p := ⟨w.heap.size, 1, none⟩) bl0).trans bx0_1
  replace bx0_2 : wA1.cell? ⟨w.heap.size, 2, none⟩ = some (.int .i64 a0.made) := (hbA1.cell (p := ⟨w.heap.size, 2, none⟩) bl0).trans bx0_2
  replace bx0_3 : wA1.cell? ⟨w.heap.size, 3, none⟩ = some (.slice a0.A a0.evs.length a0.c) := (hbA1.cell (p := ⟨w.heap.size, 3, none⟩) bl0).trans bx0_3
  replace bl0 := Nat.lt_of_lt_of_le bl0 hbA1.size
  replace o_w := o_w.below (hbA1.mono ble_w)
  replace ble_w := Nat.le_trans ble_w hbA1.size
  refine (toRecord_any _ _ _ _ _ a0.evs _ ((hl0.below hA1).more hA1.size) hn0).mono ?_
  rintro e w4 ⟨g_x0, gl_x0, rfl, o_x0, hb4⟩
  have h4 := blw hA1 hb4
  have z4 := hb4.size
  replace bx0_0 : w4.cell? ⟨w.heap.size, 0, none⟩ = some (.int .i64 a0.id) := (hb4.cell (p := ⟨w.heap.size, 0, none⟩) bl0).trans bx0_0
  replace bx0_1 : w4.cell? ⟨w.heap.size, 1, none⟩ = some (.int .i64 a0.series) := (hb4.cell (p := ⟨w.heap.size, 1, none⟩) bl0).trans bx0_1
  replace bx0_2 : w4.cell? ⟨w.heap.size, 2, none⟩ = some (.int .i64 a0.made) := (hb4.cell (p := ⟨w.heap.size, 2, none⟩) bl0).trans bx0_2
  replace bx0_3 : w4.cell? ⟨w.heap.size, 3, none⟩ = some (.slice a0.A a0.evs.length a0.c) := (hb4.cell (p := ⟨w.heap.size, 3, none⟩) bl0).trans bx0_3
  replace bl0 := Nat.lt_of_lt_of_le bl0 hb4.size
  replace rb_w_0 : w4.cell? ⟨w3.heap.size, 0, none⟩ = some (.int .i64 (keepI (dropEB a0.id a0.series a0.made a0.evs a1) a0.id)) := (hb4.cell (p := ⟨w3.heap.size, 0, none⟩) rb_wl).trans rb_w_0
  replace rb_w_1 : w4.cell? ⟨w3.heap.size, 1, none⟩ = some (.int .i64 (keepI (dropEB a0.id a0.series a0.made a0.evs a1) a0.series)) := (hb4.cell (p := ⟨w3.heap.size, 1, none⟩) rb_wl).trans rb_w_1
  replace rb_w_2 : w4.cell? ⟨w3.heap.size, 2, none⟩ = some (.int .i64 (keepI (dropEB a0.id a0.series a0.made a0.evs a1) a0.made)) := (hb4.cell (p := ⟨w3.heap.size, 2, none⟩) rb_wl).trans rb_w_2
  replace rb_w_3 : w4.cell? ⟨w3.heap.size, 3, none⟩ = some (.slice A_w (dropEL a0.id a0.series a0.made a0.evs a1).length C_w) := (hb4.cell (p := ⟨w3.heap.size, 3, none⟩) rb_wl).trans rb_w_3
  replace rb_wl := Nat.lt_of_lt_of_le rb_wl hb4.size
  replace o_w := o_w.below (hb4.mono ble_w)
  replace ble_w := Nat.le_trans ble_w hb4.size
  have y_x0 := o_x0.lt
  have gw_x0 : Bw ≤ g_x0 := Nat.le_trans (by omega) gl_x0
  go_wp2_with fail
  have hbA2 : Below w4.heap.size w4 (w4.alloc (.cells #[.int .i64 a0.id, .int .i64 a0.series, .int .i64 a0.made, .slice (some ⟨g_x0, 0, none⟩) a0.evs.length a0.evs.length] 30)) := (Below.refl _ _).alloc (Nat.le_refl _) _
  have xb0_0 : (w4.alloc (.cells #[.int .i64 a0.id, .int .i64 a0.series, .int .i64 a0.made, .slice (some ⟨g_x0, 0, none⟩) a0.evs.length a0.evs.length] 30)).cell? ⟨w4.heap.size, 0, none⟩ = some (.int .i64 a0.id) := by simp
  have xb0_1 : (w4.alloc (.cells #[.int .i64 a0.id, .int .i64 a0.series, .int .i64 a0.made, .slice (some ⟨g_x0, 0, none⟩) a0.evs.length a0.evs.length] 30)).cell? ⟨w4.heap.size, 1, none⟩ = some (.int .i64 a0.series) := by simp
  have xb0_2 : (w4.alloc (.cells #[.int .i64 a0.id, .int .i64 a0.series, .int .i64 a0.made, .slice (some ⟨g_x0, 0, none⟩) a0.evs.length a0.evs.length] 30)).cell? ⟨w4.heap.size, 2, none⟩ = some (.int .i64 a0.made) := by simp
  have xb0_3 : (w4.alloc (.cells #[.int .i64 a0.id, .int .i64 a0.series, .int .i64 a0.made, .slice (some ⟨g_x0, 0, none⟩) a0.evs.length a0.evs.length] 30)).cell? ⟨w4.heap.size, 3, none⟩ = some (.slice (some ⟨g_x0, 0, none⟩) a0.evs.length a0.evs.length) := by simp
  have xb0l : w4.heap.size < (w4.alloc (.cells #[.int .i64 a0.id, .int .i64 a0.series, .int .i64 a0.made, .slice (some ⟨g_x0, 0, none⟩) a0.evs.length a0.evs.length] 30)).heap.size := by simp
  have xb0z : w.heap.size ≤ w4.heap.size := h4.size
  generalize (w4.alloc (.cells #[.int .i64 a0.id, .int .i64 a0.series, .int .i64 a0.made, .slice (some ⟨g_x0, 0, none⟩) a0.evs.length a0.evs.length] 30)) = wA2 at *
  have xb0lk := xb0l
  have hA2 := blw h4 hbA2
  have zA2 := hbA2.size
  replace bx0_0 : wA2.cell? ⟨w.heap.size, 0, none⟩ = some (.int .i64 a0.id) := (hbA2.cell (p := ⟨w.heap.size, 0, none⟩) bl0).trans bx0_0
  replace bx0_1 : wA2.cell? ⟨w.heap.size, 1, none⟩ = some (.int .i64 a0.series) := (hbA2.cell (p := ⟨w.heap.size, 1, none⟩) bl0).trans bx0_1
  replace bx0_2 : wA2.cell? ⟨w.heap.size, 2, none⟩ = some (.int .i64 a0.made) := (hbA2.cell (p := ⟨w.heap.size, 2, none⟩) bl0).trans bx0_2
  replace bx0_3 : wA2.cell? ⟨w.heap.size, 3, none⟩ = some (.slice a0.A a0.evs.length a0.c) := (hbA2.cell (p := ⟨w.heap.size, 3, none⟩) bl0).trans bx0_3
  replace bl0 := Nat.lt_of_lt_of_le bl0 hbA2.size
  replace rb_w_0 : wA2.cell? ⟨w3.heap.size, 0, none⟩ = some (.int .i64 (keepI (dropEB a0.id a0.series a0.made a0.evs a1) a0.id)) := (hbA2.cell (p := ⟨w3.heap.size, 0, none⟩) rb_wl).trans rb_w_0
  replace rb_w_1 : wA2.cell? ⟨w3.heap.size, 1, none⟩ = some (.int .i64 (keepI (dropEB a0.id a0.series a0.made a0.evs a1) a0.series)) := (hbA2.cell (p := ⟨w3.heap.size, 1, none⟩) rb_wl).trans rb_w_1
  replace rb_w_2 : wA2.cell? ⟨w3.heap.size, 2, none⟩ = some (.int .i64 (keepI (dropEB a0.id a0.series a0.made a0.evs a1) a0.made)) := (hbA2.cell (p := ⟨w3.heap.size, 2, none⟩) rb_wl).trans rb_w_2
  replace rb_w_3 : wA2.cell? ⟨w3.heap.size, 3, none⟩ = some (.slice A_w (dropEL a0.id a0.series a0.made a0.evs a1).length C_w) := (hbA2.cell (p := ⟨w3.heap.size, 3, none⟩) rb_wl).trans rb_w_3
  replace rb_wl := Nat.lt_of_lt_of_le rb_wl hbA2.size
  replace o_w := o_w.below (hbA2.mono ble_w)
  replace ble_w := Nat.le_trans ble_w hbA2.size
  replace o_x0 := o_x0.below hbA2 o_x0.lt
  refine (c_impl_DropEvent _ _ _ _ _ a0.evs _ _ (o_x0.ls encEv_len) hn0).mono ?_
  rintro e w5 ⟨A_g, C_g, rfl, o_g, hb5⟩
  have h5 := blw hA2 hb5
  have z5 := hb5.size
  replace bx0_0 : w5.cell? ⟨w.heap.size, 0, none⟩ = some (.int .i64 a0.id) := (hb5.cell (p := ⟨w.heap.size, 0, none⟩) bl0).trans bx0_0
  replace bx0_1 : w5.cell? ⟨w.heap.size, 1, none⟩ = some (.int .i64 a0.series) := (hb5.cell (p := ⟨w.heap.size, 1, none⟩) bl0).trans bx0_1
  replace bx0_2 : w5.cell? ⟨w.heap.size, 2, none⟩ = some (.int .i64 a0.made) := (hb5.cell (p := ⟨w.heap.size, 2, none⟩) bl0).trans bx0_2
  replace bx0_3 : w5.cell? ⟨w.heap.size, 3, none⟩ = some (.slice a0.A a0.evs.length a0.c) := (hb5.cell (p := ⟨w.heap.size, 3, none⟩) bl0).trans bx0_3
  replace bl0 := Nat.lt_of_lt_of_le bl0 hb5.size
  replace rb_w_0 : w5.cell? ⟨w3.heap.size, 0, none⟩ = some (.int .i64 (keepI (dropEB a0.id a0.series a0.made a0.evs a1) a0.id)) := (hb5.cell (p := ⟨w3.heap.size, 0, none⟩) rb_wl).trans rb_w_0
  replace rb_w_1 : w5.cell? ⟨w3.heap.size, 1, none⟩ = some (.int .i64 (keepI (dropEB a0.id a0.series a0.made a0.evs a1) a0.series)) := (hb5.cell (p := ⟨w3.heap.size, 1, none⟩) rb_wl).trans rb_w_1
  replace rb_w_2 : w5.cell? ⟨w3.heap.size, 2, none⟩ = some (.int .i64 (keepI (dropEB a0.id a0.series a0.made a0.evs a1) a0.made)) := (hb5.cell (p := ⟨w3.heap.size, 2, none⟩) rb_wl).trans rb_w_2
  replace rb_w_3 : w5.cell? ⟨w3.heap.size, 3, none⟩ = some (.slice A_w (dropEL a0.id a0.series a0.made a0.evs a1).length C_w) := (hb5.cell (p := ⟨w3.heap.size, 3, none⟩) rb_wl).trans rb_w_3
  replace rb_wl := Nat.lt_of_lt_of_le rb_wl hb5.size
  replace xb0_0 : w5.cell? ⟨w4.heap.size, 0, none⟩ = some (.int .i64 a0.id) := (hb5.cell (p := ⟨w4.heap.size, 0, none⟩) xb0l).trans xb0_0
  replace xb0_1 : w5.cell? ⟨w4.heap.size, 1, none⟩ = some (.int .i64 a0.series) := (hb5.cell (p := ⟨w4.heap.size, 1, none⟩) xb0l).trans xb0_1
  replace xb0_2 : w5.cell? ⟨w4.heap.size, 2, none⟩ = some (.int .i64 a0.made) := (hb5.cell (p := ⟨w4.heap.size, 2, none⟩) xb0l).trans xb0_2
  replace xb0_3 : w5.cell? ⟨w4.heap.size, 3, none⟩ = some (.slice (some ⟨g_x0, 0, none⟩) a0.evs.length a0.evs.length) := (hb5.cell (p := ⟨w4.heap.size, 3, none⟩) xb0l).trans xb0_3
  replace xb0l := Nat.lt_of_lt_of_le xb0l hb5.size
  replace o_w := o_w.below (hb5.mono ble_w)
  replace ble_w := Nat.le_trans ble_w hb5.size
  replace o_x0 := o_x0.below hb5 o_x0.lt
  have bs_g : ∃ n, n = wA2.heap.size := ⟨_, rfl⟩
  have ub_g : ∀ b, blkOf A_g b → b < w5.heap.size := fun b hb => (o_g.block hb).2
  obtain ⟨Bg, hBg⟩ := bs_g
  rw [← hBg] at o_g
  have gg_g : wA2.heap.size ≤ Bg := Nat.le_of_eq hBg.symm
  have HBg := Lib.hid hBg
  clear hBg
  have gg_x0 : g_x0 < Bg := by omega
  have gg_bx0 : w.heap.size < Bg := by omega
  have gg_rb_w : w3.heap.size < Bg := by omega
  have gg_xb0 : w4.heap.size < Bg := by omega
  have gw_g : w.heap.size ≤ Bg := by have := h5.size; omega
  go_wp2_with fail
  have hbA3 : Below w5.heap.size w5 (w5.alloc (.cells #[.int .i64 (keepI (dropEB a0.id a0.series a0.made a0.evs a1) a0.id), .int .i64 (keepI (dropEB a0.id a0.series a0.made a0.evs a1) a0.series), .int .i64 (keepI (dropEB a0.id a0.series a0.made a0.evs a1) a0.made), .slice A_g (dropEL a0.id a0.series a0.made a0.evs a1).length C_g] 30)) := (Below.refl _ _).alloc (Nat.le_refl _) _
  have rb_g_0 : (w5.alloc (.cells #[.int .i64 (keepI (dropEB a0.id a0.series a0.made a0.evs a1) a0.id), .int .i64 (keepI (dropEB a0.id a0.series a0.made a0.evs a1) a0.series), .int .i64 (keepI (dropEB a0.id a0.series a0.made a0.evs a1) a0.made), .slice A_g (dropEL a0.id a0.series a0.made a0.evs a1).length C_g] 30)).cell? ⟨w5.heap.size, 0, none⟩ = some (.int .i64 (keepI (dropEB a0.id a0.series a0.made a0.evs a1) a0.id)) := by simp
  have rb_g_1 : (w5.alloc (.cells #[.int .i64 (keepI (dropEB a0.id a0.series a0.made a0.evs a1) a0.id), .int .i64 (keepI (dropEB a0.id a0.series a0.made a0.evs a1) a0.series), .int .i64 (keepI (dropEB a0.id a0.series a0.made a0.evs a1) a0.made), .slice A_g (dropEL a0.id a0.series a0.made a0.evs a1).length C_g] 30)).cell? ⟨w5.heap.size, 1, none⟩ = some (.int .i64 (keepI (dropEB a0.id a0.series a0.made a0.evs a1) a0.series)) := by simp
  have rb_g_2 : (w5.alloc (.cells #[.int .i64 (keepI (dropEB a0.id a0.series a0.made a0.evs a1) a0.id), .int .i64 (keepI (dropEB a0.id a0.series a0.made a0.evs a1) a0.series), .int .i64 (keepI (dropEB a0.id a0.series a0.made a0.evs a1) a0.made), .slice A_g (dropEL a0.id a0.series a0.made a0.evs a1).length C_g] 30)).cell? ⟨w5.heap.size, 2, none⟩ = some (.int .i64 (keepI (dropEB a0.id a0.series a0.made a0.evs a1) a0.made)) := by simp
  have rb_g_3 : (w5.alloc (.cells #[.int .i64 (keepI (dropEB a0.id a0.series a0.made a0.evs a1) a0.id), .int .i64 (keepI (dropEB a0.id a0.series a0.made a0.evs a1) a0.series), .int .i64 (keepI (dropEB a0.id a0.series a0.made a0.evs a1) a0.made), .slice A_g (dropEL a0.id a0.series a0.made a0.evs a1).length C_g] 30)).cell? ⟨w5.heap.size, 3, none⟩ = some (.slice A_g (dropEL a0.id a0.series a0.made a0.evs a1).length C_g) := by simp
  have rb_gl : w5.heap.size < (w5.alloc (.cells #[.int .i64 (keepI (dropEB a0.id a0.series a0.made a0.evs a1) a0.id), .int .i64 (keepI (dropEB a0.id a0.series a0.made a0.evs a1) a0.series), .int .i64 (keepI (dropEB a0.id a0.series a0.made a0.evs a1) a0.made), .slice A_g (dropEL a0.id a0.series a0.made a0.evs a1).length C_g] 30)).heap.size := by simp
  have rb_gz : w.heap.size ≤ w5.heap.size := h5.size
  generalize (w5.alloc (.cells #[.int .i64 (keepI (dropEB a0.id a0.series a0.made a0.evs a1) a0.id), .int .i64 (keepI (dropEB a0.id a0.series a0.made a0.evs a1) a0.series), .int .i64 (keepI (dropEB a0.id a0.series a0.made a0.evs a1) a0.made), .slice A_g (dropEL a0.id a0.series a0.made a0.evs a1).length C_g] 30)) = wA3 at *
  have rb_glk := rb_gl
  have hA3 := blw h5 hbA3
  have zA3 := hbA3.size
  replace bx0_0 : wA3.cell? ⟨w.heap.size, 0, none⟩ = some (.int .i64 a0.id) := (hbA3.cell (p := ⟨w.heap.size, 0, none⟩) bl0).trans bx0_0
  replace bx0_1 : wA3.cell? ⟨w.heap.size, 1, none⟩ = some (.int .i64 a0.series) := (hbA3.cell (p := ⟨w.heap.size, 1, none⟩) bl0).trans bx0_1
  replace bx0_2 : wA3.cell? ⟨w.heap.size, 2, none⟩ = some (.int .i64 a0.made) := (hbA3.cell (p := ⟨w.heap.size, 2, none⟩) bl0).trans bx0_2
  replace bx0_3 : wA3.cell? ⟨w.heap.size, 3, none⟩ = some (.slice a0.A a0.evs.length a0.c) := (hbA3.cell (p := ⟨w.heap.size, 3, none⟩) bl0).trans bx0_3
  replace bl0 := Nat.lt_of_lt_of_le bl0 hbA3.size
  replace rb_w_0 : wA3.cell? ⟨w3.heap.size, 0, none⟩ = some (.int .i64 (keepI (dropEB a0.id a0.series a0.made a0.evs a1) a0.id)) := (hbA3.cell (p := ⟨w3.heap.size, 0, none⟩) rb_wl).trans rb_w_0
  replace rb_w_1 : wA3.cell? ⟨w3.heap.size, 1, none⟩ = some (.int .i64 (keepI (dropEB a0.id a0.series a0.made a0.evs a1) a0.series)) := (hbA3.cell (p := ⟨w3.heap.size, 1, none⟩) rb_wl).trans rb_w_1
  replace rb_w_2 : wA3.cell? ⟨w3.heap.size, 2, none⟩ = some (.int .i64 (keepI (dropEB a0.id a0.series a0.made a0.evs a1) a0.made)) := (hbA3.cell (p := ⟨w3.heap.size, 2, none⟩) rb_wl).trans rb_w_2
  replace rb_w_3 : wA3.cell? ⟨w3.heap.size, 3, none⟩ = some (.slice A_w (dropEL a0.id a0.series a0.made a0.evs a1).length C_w) := (hbA3.cell (p := ⟨w3.heap.size, 3, none⟩) rb_wl).trans rb_w_3
  replace rb_wl := Nat.lt_of_lt_of_le rb_wl hbA3.size
  replace xb0_0 : wA3.cell? ⟨w4.heap.size, 0, none⟩ = some (.int .i64 a0.id) := (hbA3.cell (p := ⟨w4.heap.size, 0, none⟩) xb0l).trans xb0_0
  replace xb0_1 : wA3.cell? ⟨w4.heap.size, 1, none⟩ = some (.int .i64 a0.series) := (hbA3.cell (p := ⟨w4.heap.size, 1, none⟩) xb0l).trans xb0_1
  replace xb0_2 : wA3.cell? ⟨w4.heap.size, 2, none⟩ = some (.int .i64 a0.made) := (hbA3.cell (p := ⟨w4.heap.size, 2, none⟩) xb0l).trans xb0_2
  replace xb0_3 : wA3.cell? ⟨w4.heap.size, 3, none⟩ = some (.slice (some ⟨g_x0, 0, none⟩) a0.evs.length a0.evs.length) := (hbA3.cell (p := ⟨w4.heap.size, 3, none⟩) xb0l).trans xb0_3
  replace xb0l := Nat.lt_of_lt_of_le xb0l hbA3.size
  replace o_w := o_w.below (hbA3.mono ble_w)
  replace ble_w := Nat.le_trans ble_w hbA3.size
  replace o_x0 := o_x0.below hbA3 o_x0.lt
  replace o_g := o_g.on hbA3
  refine (eqRecord_any _ _ _ _ _ _ _ (dropEL a0.id a0.series a0.made a0.evs a1) _ (o_g.ls encEv_len) (o_w.more ble_w) (by have := dropEL_le a0.id a0.series a0.made a0.evs a1; omega)).mono ?_
  rintro e w6 ⟨rfl, hb6⟩
  have h6 := blw hA3 hb6
  have z6 := hb6.size
  replace bx0_0 : w6.cell? ⟨w.heap.size, 0, none⟩ = some (.int .i64 a0.id) := (hb6.cell (p := ⟨w.heap.size, 0, none⟩) bl0).trans bx0_0
  replace bx0_1 : w6.cell? ⟨w.heap.size, 1, none⟩ = some (.int .i64 a0.series) := (hb6.cell (p := ⟨w.heap.size, 1, none⟩) bl0).trans bx0_1
  replace bx0_2 : w6.cell? ⟨w.heap.size, 2, none⟩ = some (.int .i64 a0.made) := (hb6.cell (p := ⟨w.heap.size, 2, none⟩) bl0).trans bx0_2
  replace bx0_3 : w6.cell? ⟨w.heap.size, 3, none⟩ = some (.slice a0.A a0.evs.length a0.c) := (hb6.cell (p := ⟨w.heap.size, 3, none⟩) bl0).trans bx0_3
  replace bl0 := Nat.lt_of_lt_of_le bl0 hb6.size
  replace rb_w_0 : w6.cell? ⟨w3.heap.size, 0, none⟩ = some (.int .i64 (keepI (dropEB a0.id a0.series a0.made a0.evs a1) a0.id)) := (hb6.cell (p := ⟨w3.heap.size, 0, none⟩) rb_wl).trans rb_w_0
  replace rb_w_1 : w6.cell? ⟨w3.heap.size, 1, none⟩ = some (.int .i64 (keepI (dropEB a0.id a0.series a0.made a0.evs a1) a0.series)) := (hb6.cell (p := ⟨w3.heap.size, 1, none⟩) rb_wl).trans rb_w_1
  replace rb_w_2 : w6.cell? ⟨w3.heap.size, 2, none⟩ = some (.int .i64 (keepI (dropEB a0.id a0.series a0.made a0.evs a1) a0.made)) := (hb6.cell (p := ⟨w3.heap.size, 2, none⟩) rb_wl).trans rb_w_2
  replace rb_w_3 : w6.cell? ⟨w3.heap.size, 3, none⟩ = some (.slice A_w (dropEL a0.id a0.series a0.made a0.evs a1).length C_w) := (hb6.cell (p := ⟨w3.heap.size, 3, none⟩) rb_wl).trans rb_w_3
  replace rb_wl := Nat.lt_of_lt_of_le rb_wl hb6.size
  replace xb0_0 : w6.cell? ⟨w4.heap.size, 0, none⟩ = some (.int .i64 a0.id) := (hb6.cell (p := ⟨w4.heap.size, 0, none⟩) xb0l).trans xb0_0
  replace xb0_1 : w6.cell? ⟨w4.heap.size, 1, none⟩ = some (.int .i64 a0.series) := (hb6.cell (p := ⟨w4.heap.size, 1, none⟩) xb0l).trans xb0_1
  replace xb0_2 : w6.cell? ⟨w4.heap.size, 2, none⟩ = some (.int .i64 a0.made) := (hb6.cell (p := ⟨w4.heap.size, 2, none⟩) xb0l).trans xb0_2
  replace xb0_3 : w6.cell? ⟨w4.heap.size, 3, none⟩ = some (.slice (some ⟨g_x0, 0, none⟩) a0.evs.length a0.evs.length) := (hb6.cell (p := ⟨w4.heap.size, 3, none⟩) xb0l).trans xb0_3
  replace xb0l := Nat.lt_of_lt_of_le xb0l hb6.size
  replace rb_g_0 : w6.cell? ⟨w5.heap.size, 0, none⟩ = some (.int .i64 (keepI (dropEB a0.id a0.series a0.made a0.evs a1) a0.id)) := (hb6.cell (p := ⟨w5.heap.size, 0, none⟩) rb_gl).trans rb_g_0
  replace rb_g_1 : w6.cell? ⟨w5.heap.size, 1, none⟩ = some (.int .i64 (keepI (dropEB a0.id a0.series a0.made a0.evs a1) a0.series)) := (hb6.cell (p := ⟨w5.heap.size, 1, none⟩) rb_gl).trans rb_g_1
  replace rb_g_2 : w6.cell? ⟨w5.heap.size, 2, none⟩ = some (.int .i64 (keepI (dropEB a0.id a0.series a0.made a0.evs a1) a0.made)) := (hb6.cell (p := ⟨w5.heap.size, 2, none⟩) rb_gl).trans rb_g_2
  replace rb_g_3 : w6.cell? ⟨w5.heap.size, 3, none⟩ = some (.slice A_g (dropEL a0.id a0.series a0.made a0.evs a1).length C_g) := (hb6.cell (p := ⟨w5.heap.size, 3, none⟩) rb_gl).trans rb_g_3
  replace rb_gl := Nat.lt_of_lt_of_le rb_gl hb6.size
  replace o_w := o_w.below (hb6.mono ble_w)
  replace ble_w := Nat.le_trans ble_w hb6.size
  replace o_x0 := o_x0.below hb6 o_x0.lt
  replace o_g := o_g.on hb6
  go_wp2_with fail
  have hk0 : Hid (∀ W, Below w6.heap.size w6 W → W.cell? ⟨w4.heap.size, 0, none⟩ = some (.int .i64 a0.id) ∧ W.cell? ⟨w4.heap.size, 1, none⟩ = some (.int .i64 a0.series) ∧ W.cell? ⟨w4.heap.size, 2, none⟩ = some (.int .i64 a0.made) ∧ W.cell? ⟨w4.heap.size, 3, none⟩ = some (.slice (some ⟨g_x0, 0, none⟩) a0.evs.length a0.evs.length) ∧ W.cell? ⟨w.heap.size, 0, none⟩ = some (.int .i64 a0.id) ∧ W.cell? ⟨w.heap.size, 1, none⟩ = some (.int .i64 a0.series) ∧ W.cell? ⟨w.heap.size, 2, none⟩ = some (.int .i64 a0.made) ∧ W.cell? ⟨w.heap.size, 3, none⟩ = some (.slice a0.A a0.evs.length a0.c)) := fun W hb => ⟨(hb.cell (p := ⟨_, _, _⟩) xb0l).trans xb0_0, (hb.cell (p := ⟨_, _, _⟩) xb0l).trans xb0_1, (hb.cell (p := ⟨_, _, _⟩) xb0l).trans xb0_2, (hb.cell (p := ⟨_, _, _⟩) xb0l).trans xb0_3, (hb.cell (p := ⟨_, _, _⟩) bl0).trans bx0_0, (hb.cell (p := ⟨_, _, _⟩) bl0).trans bx0_1, (hb.cell (p := ⟨_, _, _⟩) bl0).trans bx0_2, (hb.cell (p := ⟨_, _, _⟩) bl0).trans bx0_3⟩
  have o_d0 : Own w6.drew g_x0 49 encEv 2 a0.evs := o_x0
  go_region_held3 (fun W => W.cell? ⟨w4.heap.size, 0, none⟩ = some (.int .i64 a0.id) ∧ W.cell? ⟨w4.heap.size, 1, none⟩ = some (.int .i64 a0.series) ∧ W.cell? ⟨w4.heap.size, 2, none⟩ = some (.int .i64 a0.made) ∧ W.cell? ⟨w4.heap.size, 3, none⟩ = some (.slice (some ⟨g_x0, 0, none⟩) a0.evs.length a0.evs.length) ∧ W.cell? ⟨w.heap.size, 0, none⟩ = some (.int .i64 a0.id) ∧ W.cell? ⟨w.heap.size, 1, none⟩ = some (.int .i64 a0.series) ∧ W.cell? ⟨w.heap.size, 2, none⟩ = some (.int .i64 a0.made) ∧ W.cell? ⟨w.heap.size, 3, none⟩ = some (.slice a0.A a0.evs.length a0.c))
    (first | exact hk0.out _ (Below.refl _ w6).drew | exact hk0.out _ ((Below.refl _ w6).drew.trans hb7) | exact hk0.out _ (blw ((Below.refl _ w6).drew.trans hb7) hb8))
    (first | (go_at_call 15; refine (toRecord_any _ _ _ _ _ a0.evs _ ((hl0.below h6.drew).more h6.size) hn0).mono ?_; rintro e w7 ⟨g_t0, gl_t0, rfl, o_t0, hb7⟩) | (go_at_call 17; refine (eqRecord_any _ _ _ _ _ _ _ a0.evs _ ((o_d0.below hb7 o_d0.lt).ls encEv_len) (o_t0.ls encEv_len) (by omega)).mono ?_; rintro e w8 ⟨rfl, hb8⟩))
  have hb78 : Below w6.heap.size w6 w8 := blw ((Below.refl _ w6).drew.trans hb7) hb8
  clear o_d0 hk0
  have h8 := blw h6 hb78
  have z8 := hb78.size
  replace bx0_0 : w8.cell? ⟨w.heap.size, 0, none⟩ = some (.int .i64 a0.id) := (hb78.cell (p := ⟨w.heap.size, 0, none⟩) bl0).trans bx0_0
  replace bx0_1 : w8.cell? ⟨w.heap.size, 1, none⟩ = some (.int .i64 a0.series) := (hb78.cell (p := ⟨w.heap.size, 1, none⟩) bl0).trans bx0_1
  replace bx0_2 : w8.cell? ⟨w.heap.size, 2, none⟩ = some (.int .i64 a0.made) := (hb78.cell (p := ⟨w.heap.size, 2, none⟩) bl0).trans bx0_2
  replace bx0_3 : w8.cell? ⟨w.heap.size, 3, none⟩ = some (.slice a0.A a0.evs.length a0.c) := (hb78.cell (p := ⟨w.heap.size, 3, none⟩) bl0).trans bx0_3
  replace bl0 := Nat.lt_of_lt_of_le bl0 hb78.size
  replace rb_w_0 : w8.cell? ⟨w3.heap.size, 0, none⟩ = some (.int .i64 (keepI (dropEB a0.id a0.series a0.made a0.evs a1) a0.id)) := (hb78.cell (p := ⟨w3.heap.size, 0, none⟩) rb_wl).trans rb_w_0
  replace rb_w_1 : w8.cell? ⟨w3.heap.size, 1, none⟩ = some (.int .i64 (keepI (dropEB a0.id a0.series a0.made a0.evs a1) a0.series)) := (hb78.cell (p := ⟨w3.heap.size, 1, none⟩) rb_wl).trans rb_w_1
  replace rb_w_2 : w8.cell? ⟨w3.heap.size, 2, none⟩ = some (.int .i64 (keepI (dropEB a0.id a0.series a0.made a0.evs a1) a0.made)) := (hb78.cell (p := ⟨w3.heap.size, 2, none⟩) rb_wl).trans rb_w_2
  replace rb_w_3 : w8.cell? ⟨w3.heap.size, 3, none⟩ = some (.slice A_w (dropEL a0.id a0.series a0.made a0.evs a1).length C_w) := (hb78.cell (p := ⟨w3.heap.size, 3, none⟩) rb_wl).trans rb_w_3
  replace rb_wl := Nat.lt_of_lt_of_le rb_wl hb78.size
  replace xb0_0 : w8.cell? ⟨w4.heap.size, 0, none⟩ = some (.int .i64 a0.id) := (hb78.cell (p := ⟨w4.heap.size, 0, none⟩) xb0l).trans xb0_0
  replace xb0_1 : w8.cell? ⟨w4.heap.size, 1, none⟩ = some (.int .i64 a0.series) := (hb78.cell (p := ⟨w4.heap.size, 1, none⟩) xb0l).trans xb0_1
  replace xb0_2 : w8.cell? ⟨w4.heap.size, 2, none⟩ = some (.int .i64 a0.made) := (hb78.cell (p := ⟨w4.heap.size, 2, none⟩) xb0l).trans xb0_2
  replace xb0_3 : w8.cell? ⟨w4.heap.size, 3, none⟩ = some (.slice (some ⟨g_x0, 0, none⟩) a0.evs.length a0.evs.length) := (hb78.cell (p := ⟨w4.heap.size, 3, none⟩) xb0l).trans xb0_3
  replace xb0l := Nat.lt_of_lt_of_le xb0l hb78.size
  replace rb_g_0 : w8.cell? ⟨w5.heap.size, 0, none⟩ = some (.int .i64 (keepI (dropEB a0.id a0.series a0.made a0.evs a1) a0.id)) := (hb78.cell (p := ⟨w5.heap.size, 0, none⟩) rb_gl).trans rb_g_0
  replace rb_g_1 : w8.cell? ⟨w5.heap.size, 1, none⟩ = some (.int .i64 (keepI (dropEB a0.id a0.series a0.made a0.evs a1) a0.series)) := (hb78.cell (p := ⟨w5.heap.size, 1, none⟩) rb_gl).trans rb_g_1
  replace rb_g_2 : w8.cell? ⟨w5.heap.size, 2, none⟩ = some (.int .i64 (keepI (dropEB a0.id a0.series a0.made a0.evs a1) a0.made)) := (hb78.cell (p := ⟨w5.heap.size, 2, none⟩) rb_gl).trans rb_g_2
  replace rb_g_3 : w8.cell? ⟨w5.heap.size, 3, none⟩ = some (.slice A_g (dropEL a0.id a0.series a0.made a0.evs a1).length C_g) := (hb78.cell (p := ⟨w5.heap.size, 3, none⟩) rb_gl).trans rb_g_3
  replace rb_gl := Nat.lt_of_lt_of_le rb_gl hb78.size
  replace o_w := o_w.below (hb78.mono ble_w)
  replace ble_w := Nat.le_trans ble_w hb78.size
  replace o_x0 := o_x0.below hb78 o_x0.lt
  replace o_g := o_g.on hb78
  go_wp2_with fail
  refine (markRecord_any _ _ _ _ _ a0.evs.length _ _ o_x0.row1 hn0 (by omega) (by omega)).mono ?_
  rintro e w9 ⟨rfl, hw9, _⟩
  have hS9 : ∀ b, blkOf (some ⟨g_x0, 0, none⟩) b → g_x0 ≤ b := fun b hb => by obtain ⟨q, hq⟩ := hb; simp at hq <;> omega
  have h9 := h8.trans (hw9.below h8.size (fun b hb => Nat.le_trans (by have := h0.size; omega) (hS9 b hb)))
  have z9 := hw9.size
  replace bx0_0 : w9.cell? ⟨w.heap.size, 0, none⟩ = some (.int .i64 a0.id) := (hw9.cell (k := w.heap.size) (o := 0) bl0 (fun hS => by obtain ⟨q, hq⟩ := hS; simp at hq <;> omega)).trans bx0_0
  replace bx0_1 : w9.cell? ⟨w.heap.size, 1, none⟩ = some (.int .i64 a0.series) := (hw9.cell (k := w.heap.size) (o := 1) bl0 (fun hS => by obtain ⟨q, hq⟩ := hS; simp at hq <;> omega)).trans bx0_1
  replace bx0_2 : w9.cell? ⟨w.heap.size, 2, none⟩ = some (.int .i64 a0.made) := (hw9.cell (k := w.heap.size) (o := 2) bl0 (fun hS => by obtain ⟨q, hq⟩ := hS; simp at hq <;> omega)).trans bx0_2
  replace bx0_3 : w9.cell? ⟨w.heap.size, 3, none⟩ = some (.slice a0.A a0.evs.length a0.c) := (hw9.cell (k := w.heap.size) (o := 3) bl0 (fun hS => by obtain ⟨q, hq⟩ := hS; simp at hq <;> omega)).trans bx0_3
  replace bl0 := Nat.lt_of_lt_of_le bl0 hw9.size
  replace rb_w_0 : w9.cell? ⟨w3.heap.size, 0, none⟩ = some (.int .i64 (keepI (dropEB a0.id a0.series a0.made a0.evs a1) a0.id)) := (hw9.cell (k := w3.heap.size) (o := 0) rb_wl (fun hS => by obtain ⟨q, hq⟩ := hS; simp at hq <;> omega)).trans rb_w_0
  replace rb_w_1 : w9.cell? ⟨w3.heap.size, 1, none⟩ = some (.int .i64 (keepI (dropEB a0.id a0.series a0.made a0.evs a1) a0.series)) := (hw9.cell (k := w3.heap.size) (o := 1) rb_wl (fun hS => by obtain ⟨q, hq⟩ := hS; simp at hq <;> omega)).trans rb_w_1
  replace rb_w_2 : w9.cell? ⟨w3.heap.size, 2, none⟩ = some (.int .i64 (keepI (dropEB a0.id a0.series a0.made a0.evs a1) a0.made)) := (hw9.cell (k := w3.heap.size) (o := 2) rb_wl (fun hS => by obtain ⟨q, hq⟩ := hS; simp at hq <;> omega)).trans rb_w_2
  replace rb_w_3 : w9.cell? ⟨w3.heap.size, 3, none⟩ = some (.slice A_w (dropEL a0.id a0.series a0.made a0.evs a1).length C_w) := (hw9.cell (k := w3.heap.size) (o := 3) rb_wl (fun hS => by obtain ⟨q, hq⟩ := hS; simp at hq <;> omega)).trans rb_w_3
  replace rb_wl := Nat.lt_of_lt_of_le rb_wl hw9.size
  replace xb0_0 : w9.cell? ⟨w4.heap.size, 0, none⟩ = some (.int .i64 a0.id) := (hw9.cell (k := w4.heap.size) (o := 0) xb0l (fun hS => by obtain ⟨q, hq⟩ := hS; simp at hq <;> omega)).trans xb0_0
  replace xb0_1 : w9.cell? ⟨w4.heap.size, 1, none⟩ = some (.int .i64 a0.series) := (hw9.cell (k := w4.heap.size) (o := 1) xb0l (fun hS => by obtain ⟨q, hq⟩ := hS; simp at hq <;> omega)).trans xb0_1
  replace xb0_2 : w9.cell? ⟨w4.heap.size, 2, none⟩ = some (.int .i64 a0.made) := (hw9.cell (k := w4.heap.size) (o := 2) xb0l (fun hS => by obtain ⟨q, hq⟩ := hS; simp at hq <;> omega)).trans xb0_2
  replace xb0_3 : w9.cell? ⟨w4.heap.size, 3, none⟩ = some (.slice (some ⟨g_x0, 0, none⟩) a0.evs.length a0.evs.length) := (hw9.cell (k := w4.heap.size) (o := 3) xb0l (fun hS => by obtain ⟨q, hq⟩ := hS; simp at hq <;> omega)).trans xb0_3
  replace xb0l := Nat.lt_of_lt_of_le xb0l hw9.size
  replace rb_g_0 : w9.cell? ⟨w5.heap.size, 0, none⟩ = some (.int .i64 (keepI (dropEB a0.id a0.series a0.made a0.evs a1) a0.id)) := (hw9.cell (k := w5.heap.size) (o := 0) rb_gl (fun hS => by obtain ⟨q, hq⟩ := hS; simp at hq <;> omega)).trans rb_g_0
  replace rb_g_1 : w9.cell? ⟨w5.heap.size, 1, none⟩ = some (.int .i64 (keepI (dropEB a0.id a0.series a0.made a0.evs a1) a0.series)) := (hw9.cell (k := w5.heap.size) (o := 1) rb_gl (fun hS => by obtain ⟨q, hq⟩ := hS; simp at hq <;> omega)).trans rb_g_1
  replace rb_g_2 : w9.cell? ⟨w5.heap.size, 2, none⟩ = some (.int .i64 (keepI (dropEB a0.id a0.series a0.made a0.evs a1) a0.made)) := (hw9.cell (k := w5.heap.size) (o := 2) rb_gl (fun hS => by obtain ⟨q, hq⟩ := hS; simp at hq <;> omega)).trans rb_g_2
  replace rb_g_3 : w9.cell? ⟨w5.heap.size, 3, none⟩ = some (.slice A_g (dropEL a0.id a0.series a0.made a0.evs a1).length C_g) := (hw9.cell (k := w5.heap.size) (o := 3) rb_gl (fun hS => by obtain ⟨q, hq⟩ := hS; simp at hq <;> omega)).trans rb_g_3
  replace rb_gl := Nat.lt_of_lt_of_le rb_gl hw9.size
  replace o_w := o_w.wr hw9 (fun b hb => by have := hS9 b hb; omega) ble_w
  replace ble_w := Nat.le_trans ble_w hw9.size
  replace o_g := o_g.wr_up hw9 (fun b hb hS => by obtain ⟨q, hq⟩ := hS; simp at hq <;> omega)
  go_wp2_with fail
  refine (eqRecord_any _ _ _ _ _ _ _ (dropEL a0.id a0.series a0.made a0.evs a1) _ (o_g.ls encEv_len) (o_w.more ble_w) (by have := dropEL_le a0.id a0.series a0.made a0.evs a1; omega)).mono ?_
  rintro e w10 ⟨rfl, hb10⟩
  have h10 := blw h9 hb10
  have z10 := hb10.size
  replace bx0_0 : w10.cell? ⟨w.heap.size, 0, none⟩ = some (.int .i64 a0.id) := (hb10.cell (p := ⟨w.heap.size, 0, none⟩) bl0).trans bx0_0
  replace bx0_1 : w10.cell? ⟨w.heap.size, 1, none⟩ = some (.int .i64 a0.series) := (hb10.cell (p := ⟨w.heap.size, 1, none⟩) bl0).trans bx0_1
  replace bx0_2 : w10.cell? ⟨w.heap.size, 2, none⟩ = some (.int .i64 a0.made) := (hb10.cell (p := ⟨w.heap.size, 2, none⟩) bl0).trans bx0_2
  replace bx0_3 : w10.cell? ⟨w.heap.size, 3, none⟩ = some (.slice a0.A a0.evs.length a0.c) := (hb10.cell (p := ⟨w.heap.size, 3, none⟩) bl0).trans bx0_3
  replace bl0 := Nat.lt_of_lt_of_le bl0 hb10.size
  replace rb_w_0 : w10.cell? ⟨w3.heap.size, 0, none⟩ = some (.int .i64 (keepI (dropEB a0.id a0.series a0.made a0.evs a1) a0.id)) := (hb10.cell (p := ⟨w3.heap.size, 0, none⟩) rb_wl).trans rb_w_0
  replace rb_w_1 : w10.cell? ⟨w3.heap.size, 1, none⟩ = some (.int .i64 (keepI (dropEB a0.id a0.series a0.made a0.evs a1) a0.series)) := (hb10.cell (p := ⟨w3.heap.size, 1, none⟩) rb_wl).trans rb_w_1
  replace rb_w_2 : w10.cell? ⟨w3.heap.size, 2, none⟩ = some (.int .i64 (keepI (dropEB a0.id a0.series a0.made a0.evs a1) a0.made)) := (hb10.cell (p := ⟨w3.heap.size, 2, none⟩) rb_wl).trans rb_w_2
  replace rb_w_3 : w10.cell? ⟨w3.heap.size, 3, none⟩ = some (.slice A_w (dropEL a0.id a0.series a0.made a0.evs a1).length C_w) := (hb10.cell (p := ⟨w3.heap.size, 3, none⟩) rb_wl).trans rb_w_3
  replace rb_wl := Nat.lt_of_lt_of_le rb_wl hb10.size
  replace xb0_0 : w10.cell? ⟨w4.heap.size, 0, none⟩ = some (.int .i64 a0.id) := (hb10.cell (p := ⟨w4.heap.size, 0, none⟩) xb0l).trans xb0_0
  replace xb0_1 : w10.cell? ⟨w4.heap.size, 1, none⟩ = some (.int .i64 a0.series) := (hb10.cell (p := ⟨w4.heap.size, 1, none⟩) xb0l).trans xb0_1
  replace xb0_2 : w10.cell? ⟨w4.heap.size, 2, none⟩ = some (.int .i64 a0.made) := (hb10.cell (p := ⟨w4.heap.size, 2, none⟩) xb0l).trans xb0_2
  replace xb0_3 : w10.cell? ⟨w4.heap.size, 3, none⟩ = some (.slice (some ⟨g_x0, 0, none⟩) a0.evs.length a0.evs.length) := (hb10.cell (p := ⟨w4.heap.size, 3, none⟩) xb0l).trans xb0_3
  replace xb0l := Nat.lt_of_lt_of_le xb0l hb10.size
  replace rb_g_0 : w10.cell? ⟨w5.heap.size, 0, none⟩ = some (.int .i64 (keepI (dropEB a0.id a0.series a0.made a0.evs a1) a0.id)) := (hb10.cell (p := ⟨w5.heap.size, 0, none⟩) rb_gl).trans rb_g_0
  replace rb_g_1 : w10.cell? ⟨w5.heap.size, 1, none⟩ = some (.int .i64 (keepI (dropEB a0.id a0.series a0.made a0.evs a1) a0.series)) := (hb10.cell (p := ⟨w5.heap.size, 1, none⟩) rb_gl).trans rb_g_1
  replace rb_g_2 : w10.cell? ⟨w5.heap.size, 2, none⟩ = some (.int .i64 (keepI (dropEB a0.id a0.series a0.made a0.evs a1) a0.made)) := (hb10.cell (p := ⟨w5.heap.size, 2, none⟩) rb_gl).trans rb_g_2
  replace rb_g_3 : w10.cell? ⟨w5.heap.size, 3, none⟩ = some (.slice A_g (dropEL a0.id a0.series a0.made a0.evs a1).length C_g) := (hb10.cell (p := ⟨w5.heap.size, 3, none⟩) rb_gl).trans rb_g_3
  replace rb_gl := Nat.lt_of_lt_of_le rb_gl hb10.size
  replace o_w := o_w.below (hb10.mono ble_w)
  replace ble_w := Nat.le_trans ble_w hb10.size
  replace o_g := o_g.on hb10
  have hr_g := o_g.row1
  go_wp2_with fail
  refine (markRecord_any _ _ _ _ _ _ _ _ hr_g (by have := dropEL_le a0.id a0.series a0.made a0.evs a1; omega) (by omega) (by omega)).mono ?_
  rintro e w11 ⟨rfl, hw11, o_m⟩
  have hS11 : ∀ b, blkOf A_g b → Bg ≤ b := fun b hb => (o_g.block hb).1
  have h11 := h10.trans (hw11.below h10.size (fun b hb => Nat.le_trans gw_g (hS11 b hb)))
  have z11 := hw11.size
  replace bx0_0 : w11.cell? ⟨w.heap.size, 0, none⟩ = some (.int .i64 a0.id) := (hw11.cell (k := w.heap.size) (o := 0) bl0 (fun hS => by have := hS11 _ hS; have := ub_g _ hS; omega)).trans bx0_0
  replace bx0_1 : w11.cell? ⟨w.heap.size, 1, none⟩ = some (.int .i64 a0.series) := (hw11.cell (k := w.heap.size) (o := 1) bl0 (fun hS => by have := hS11 _ hS; have := ub_g _ hS; omega)).trans bx0_1
  replace bx0_2 : w11.cell? ⟨w.heap.size, 2, none⟩ = some (.int .i64 a0.made) := (hw11.cell (k := w.heap.size) (o := 2) bl0 (fun hS => by have := hS11 _ hS; have := ub_g _ hS; omega)).trans bx0_2
  replace bx0_3 : w11.cell? ⟨w.heap.size, 3, none⟩ = some (.slice a0.A a0.evs.length a0.c) := (hw11.cell (k := w.heap.size) (o := 3) bl0 (fun hS => by have := hS11 _ hS; have := ub_g _ hS; omega)).trans bx0_3
  replace bl0 := Nat.lt_of_lt_of_le bl0 hw11.size
  replace rb_w_0 : w11.cell? ⟨w3.heap.size, 0, none⟩ = some (.int .i64 (keepI (dropEB a0.id a0.series a0.made a0.evs a1) a0.id)) := (hw11.cell (k := w3.heap.size) (o := 0) rb_wl (fun hS => by have := hS11 _ hS; have := ub_g _ hS; omega)).trans rb_w_0
  replace rb_w_1 : w11.cell? ⟨w3.heap.size, 1, none⟩ = some (.int .i64 (keepI (dropEB a0.id a0.series a0.made a0.evs a1) a0.series)) := (hw11.cell (k := w3.heap.size) (o := 1) rb_wl (fun hS => by have := hS11 _ hS; have := ub_g _ hS; omega)).trans rb_w_1
  replace rb_w_2 : w11.cell? ⟨w3.heap.size, 2, none⟩ = some (.int .i64 (keepI (dropEB a0.id a0.series a0.made a0.evs a1) a0.made)) := (hw11.cell (k := w3.heap.size) (o := 2) rb_wl (fun hS => by have := hS11 _ hS; have := ub_g _ hS; omega)).trans rb_w_2
  replace rb_w_3 : w11.cell? ⟨w3.heap.size, 3, none⟩ = some (.slice A_w (dropEL a0.id a0.series a0.made a0.evs a1).length C_w) := (hw11.cell (k := w3.heap.size) (o := 3) rb_wl (fun hS => by have := hS11 _ hS; have := ub_g _ hS; omega)).trans rb_w_3
  replace rb_wl := Nat.lt_of_lt_of_le rb_wl hw11.size
  replace xb0_0 : w11.cell? ⟨w4.heap.size, 0, none⟩ = some (.int .i64 a0.id) := (hw11.cell (k := w4.heap.size) (o := 0) xb0l (fun hS => by have := hS11 _ hS; have := ub_g _ hS; omega)).trans xb0_0
  replace xb0_1 : w11.cell? ⟨w4.heap.size, 1, none⟩ = some (.int .i64 a0.series) := (hw11.cell (k := w4.heap.size) (o := 1) xb0l (fun hS => by have := hS11 _ hS; have := ub_g _ hS; omega)).trans xb0_1
  replace xb0_2 : w11.cell? ⟨w4.heap.size, 2, none⟩ = some (.int .i64 a0.made) := (hw11.cell (k := w4.heap.size) (o := 2) xb0l (fun hS => by have := hS11 _ hS; have := ub_g _ hS; omega)).trans xb0_2
  replace xb0_3 : w11.cell? ⟨w4.heap.size, 3, none⟩ = some (.slice (some ⟨g_x0, 0, none⟩) a0.evs.length a0.evs.length) := (hw11.cell (k := w4.heap.size) (o := 3) xb0l (fun hS => by have := hS11 _ hS; have := ub_g _ hS; omega)).trans xb0_3
  replace xb0l := Nat.lt_of_lt_of_le xb0l hw11.size
  replace rb_g_0 : w11.cell? ⟨w5.heap.size, 0, none⟩ = some (.int .i64 (keepI (dropEB a0.id a0.series a0.made a0.evs a1) a0.id)) := (hw11.cell (k := w5.heap.size) (o := 0) rb_gl (fun hS => by have := hS11 _ hS; have := ub_g _ hS; omega)).trans rb_g_0
  replace rb_g_1 : w11.cell? ⟨w5.heap.size, 1, none⟩ = some (.int .i64 (keepI (dropEB a0.id a0.series a0.made a0.evs a1) a0.series)) := (hw11.cell (k := w5.heap.size) (o := 1) rb_gl (fun hS => by have := hS11 _ hS; have := ub_g _ hS; omega)).trans rb_g_1
  replace rb_g_2 : w11.cell? ⟨w5.heap.size, 2, none⟩ = some (.int .i64 (keepI (dropEB a0.id a0.series a0.made a0.evs a1) a0.made)) := (hw11.cell (k := w5.heap.size) (o := 2) rb_gl (fun hS => by have := hS11 _ hS; have := ub_g _ hS; omega)).trans rb_g_2
  replace rb_g_3 : w11.cell? ⟨w5.heap.size, 3, none⟩ = some (.slice A_g (dropEL a0.id a0.series a0.made a0.evs a1).length C_g) := (hw11.cell (k := w5.heap.size) (o := 3) rb_gl (fun hS => by have := hS11 _ hS; have := ub_g _ hS; omega)).trans rb_g_3
  replace rb_gl := Nat.lt_of_lt_of_le rb_gl hw11.size
  replace o_w := o_w.wr hw11 (fun b hb => by have := hS11 b hb; omega) ble_w
  replace ble_w := Nat.le_trans ble_w hw11.size
  go_wp2_with fail
  refine (heldRecord_any _ _ _ _ _ _ _ _ o_m (by have := dropEL_le a0.id a0.series a0.made a0.evs a1; omega) (by omega) (by omega)).mono ?_
  rintro e w12 ⟨rfl, hb12⟩
  have h12 := blw h11 hb12
  have z12 := hb12.size
  replace bx0_0 : w12.cell? ⟨w.heap.size, 0, none⟩ = some (.int .i64 a0.id) := (hb12.cell (p := ⟨w.heap.size, 0, none⟩) bl0).trans bx0_0
  replace bx0_1 : w12.cell? ⟨w.heap.size, 1, none⟩ = some (.int .i64 a0.series) := (hb12.cell (p := ⟨w.heap.size, 1, none⟩) bl0).trans bx0_1
  replace bx0_2 : w12.cell? ⟨w.heap.size, 2, none⟩ = some (.int .i64 a0.made) := (hb12.cell (p := ⟨w.heap.size, 2, none⟩) bl0).trans bx0_2
  replace bx0_3 : w12.cell? ⟨w.heap.size, 3, none⟩ = some (.slice a0.A a0.evs.length a0.c) := (hb12.cell (p := ⟨w.heap.size, 3, none⟩) bl0).trans bx0_3
  replace bl0 := Nat.lt_of_lt_of_le bl0 hb12.size
  replace rb_w_0 : w12.cell? ⟨w3.heap.size, 0, none⟩ = some (.int .i64 (keepI (dropEB a0.id a0.series a0.made a0.evs a1) a0.id)) := (hb12.cell (p := ⟨w3.heap.size, 0, none⟩) rb_wl).trans rb_w_0
  replace rb_w_1 : w12.cell? ⟨w3.heap.size, 1, none⟩ = some (.int .i64 (keepI (dropEB a0.id a0.series a0.made a0.evs a1) a0.series)) := (hb12.cell (p := ⟨w3.heap.size, 1, none⟩) rb_wl).trans rb_w_1
  replace rb_w_2 : w12.cell? ⟨w3.heap.size, 2, none⟩ = some (.int .i64 (keepI (dropEB a0.id a0.series a0.made a0.evs a1) a0.made)) := (hb12.cell (p := ⟨w3.heap.size, 2, none⟩) rb_wl).trans rb_w_2
  replace rb_w_3 : w12.cell? ⟨w3.heap.size, 3, none⟩ = some (.slice A_w (dropEL a0.id a0.series a0.made a0.evs a1).length C_w) := (hb12.cell (p := ⟨w3.heap.size, 3, none⟩) rb_wl).trans rb_w_3
  replace rb_wl := Nat.lt_of_lt_of_le rb_wl hb12.size
  replace xb0_0 : w12.cell? ⟨w4.heap.size, 0, none⟩ = some (.int .i64 a0.id) := (hb12.cell (p := ⟨w4.heap.size, 0, none⟩) xb0l).trans xb0_0
  replace xb0_1 : w12.cell? ⟨w4.heap.size, 1, none⟩ = some (.int .i64 a0.series) := (hb12.cell (p := ⟨w4.heap.size, 1, none⟩) xb0l).trans xb0_1
  replace xb0_2 : w12.cell? ⟨w4.heap.size, 2, none⟩ = some (.int .i64 a0.made) := (hb12.cell (p := ⟨w4.heap.size, 2, none⟩) xb0l).trans xb0_2
  replace xb0_3 : w12.cell? ⟨w4.heap.size, 3, none⟩ = some (.slice (some ⟨g_x0, 0, none⟩) a0.evs.length a0.evs.length) := (hb12.cell (p := ⟨w4.heap.size, 3, none⟩) xb0l).trans xb0_3
  replace xb0l := Nat.lt_of_lt_of_le xb0l hb12.size
  replace rb_g_0 : w12.cell? ⟨w5.heap.size, 0, none⟩ = some (.int .i64 (keepI (dropEB a0.id a0.series a0.made a0.evs a1) a0.id)) := (hb12.cell (p := ⟨w5.heap.size, 0, none⟩) rb_gl).trans rb_g_0
  replace rb_g_1 : w12.cell? ⟨w5.heap.size, 1, none⟩ = some (.int .i64 (keepI (dropEB a0.id a0.series a0.made a0.evs a1) a0.series)) := (hb12.cell (p := ⟨w5.heap.size, 1, none⟩) rb_gl).trans rb_g_1
  replace rb_g_2 : w12.cell? ⟨w5.heap.size, 2, none⟩ = some (.int .i64 (keepI (dropEB a0.id a0.series a0.made a0.evs a1) a0.made)) := (hb12.cell (p := ⟨w5.heap.size, 2, none⟩) rb_gl).trans rb_g_2
  replace rb_g_3 : w12.cell? ⟨w5.heap.size, 3, none⟩ = some (.slice A_g (dropEL a0.id a0.series a0.made a0.evs a1).length C_g) := (hb12.cell (p := ⟨w5.heap.size, 3, none⟩) rb_gl).trans rb_g_3
  replace rb_gl := Nat.lt_of_lt_of_le rb_gl hb12.size
  replace o_w := o_w.below (hb12.mono ble_w)
  replace ble_w := Nat.le_trans ble_w hb12.size
  replace o_m := (o_m.below hb12).more hb12.size
  go_wp2_with fail
  refine (toRecord_any _ _ _ _ _ a0.evs _ ((hl0.below h12).more h12.size) hn0).mono ?_
  rintro e w13 ⟨g_u0, gl_u0, rfl, o_u0, hb13⟩
  have h13 := blw h12 hb13
  have z13 := hb13.size
  replace bx0_0 : w13.cell? ⟨w.heap.size, 0, none⟩ = some (.int .i64 a0.id) := (hb13.cell (p := ⟨w.heap.size, 0, none⟩) bl0).trans bx0_0
  replace bx0_1 : w13.cell? ⟨w.heap.size, 1, none⟩ = some (.int .i64 a0.series) := (hb13.cell (p := ⟨w.heap.size, 1, none⟩) bl0).trans bx0_1
  replace bx0_2 : w13.cell? ⟨w.heap.size, 2, none⟩ = some (.int .i64 a0.made) := (hb13.cell (p := ⟨w.heap.size, 2, none⟩) bl0).trans bx0_2
  replace bx0_3 : w13.cell? ⟨w.heap.size, 3, none⟩ = some (.slice a0.A a0.evs.length a0.c) := (hb13.cell (p := ⟨w.heap.size, 3, none⟩) bl0).trans bx0_3
  replace bl0 := Nat.lt_of_lt_of_le bl0 hb13.size
  replace rb_w_0 : w13.cell? ⟨w3.heap.size, 0, none⟩ = some (.int .i64 (keepI (dropEB a0.id a0.series a0.made a0.evs a1) a0.id)) := (hb13.cell (p := ⟨w3.heap.size, 0, none⟩) rb_wl).trans rb_w_0
  replace rb_w_1 : w13.cell? ⟨w3.heap.size, 1, none⟩ = some (.int .i64 (keepI (dropEB a0.id a0.series a0.made a0.evs a1) a0.series)) := (hb13.cell (p := ⟨w3.heap.size, 1, none⟩) rb_wl).trans rb_w_1
  replace rb_w_2 : w13.cell? ⟨w3.heap.size, 2, none⟩ = some (.int .i64 (keepI (dropEB a0.id a0.series a0.made a0.evs a1) a0.made)) := (hb13.cell (p := ⟨w3.heap.size, 2, none⟩) rb_wl).trans rb_w_2
  replace rb_w_3 : w13.cell? ⟨w3.heap.size, 3, none⟩ = some (.slice A_w (dropEL a0.id a0.series a0.made a0.evs a1).length C_w) := (hb13.cell (p := ⟨w3.heap.size, 3, none⟩) rb_wl).trans rb_w_3
  replace rb_wl := Nat.lt_of_lt_of_le rb_wl hb13.size
  replace xb0_0 : w13.cell? ⟨w4.heap.size, 0, none⟩ = some (.int .i64 a0.id) := (hb13.cell (p := ⟨w4.heap.size, 0, none⟩) xb0l).trans xb0_0
  replace xb0_1 : w13.cell? ⟨w4.heap.size, 1, none⟩ = some (.int .i64 a0.series) := (hb13.cell (p := ⟨w4.heap.size, 1, none⟩) xb0l).trans xb0_1
  replace xb0_2 : w13.cell? ⟨w4.heap.size, 2, none⟩ = some (.int .i64 a0.made) := (hb13.cell (p := ⟨w4.heap.size, 2, none⟩) xb0l).trans xb0_2
  replace xb0_3 : w13.cell? ⟨w4.heap.size, 3, none⟩ = some (.slice (some ⟨g_x0, 0, none⟩) a0.evs.length a0.evs.length) := (hb13.cell (p := ⟨w4.heap.size, 3, none⟩) xb0l).trans xb0_3
  replace xb0l := Nat.lt_of_lt_of_le xb0l hb13.size
  replace rb_g_0 : w13.cell? ⟨w5.heap.size, 0, none⟩ = some (.int .i64 (keepI (dropEB a0.id a0.series a0.made a0.evs a1) a0.id)) := (hb13.cell (p := ⟨w5.heap.size, 0, none⟩) rb_gl).trans rb_g_0
  replace rb_g_1 : w13.cell? ⟨w5.heap.size, 1, none⟩ = some (.int .i64 (keepI (dropEB a0.id a0.series a0.made a0.evs a1) a0.series)) := (hb13.cell (p := ⟨w5.heap.size, 1, none⟩) rb_gl).trans rb_g_1
  replace rb_g_2 : w13.cell? ⟨w5.heap.size, 2, none⟩ = some (.int .i64 (keepI (dropEB a0.id a0.series a0.made a0.evs a1) a0.made)) := (hb13.cell (p := ⟨w5.heap.size, 2, none⟩) rb_gl).trans rb_g_2
  replace rb_g_3 : w13.cell? ⟨w5.heap.size, 3, none⟩ = some (.slice A_g (dropEL a0.id a0.series a0.made a0.evs a1).length C_g) := (hb13.cell (p := ⟨w5.heap.size, 3, none⟩) rb_gl).trans rb_g_3
  replace rb_gl := Nat.lt_of_lt_of_le rb_gl hb13.size
  replace o_w := o_w.below (hb13.mono ble_w)
  replace ble_w := Nat.le_trans ble_w hb13.size
  replace o_m := (o_m.below hb13).more hb13.size
  have y_u0 := o_u0.lt
  go_wp2_with fail
  refine (c_impl_DropEvent _ _ _ _ _ a0.evs _ _ (o_u0.ls encEv_len) hn0).mono ?_
  rintro e w14 ⟨A_h, C_h, rfl, o_h, hb14⟩
  have h14 := blw h13 hb14
  have z14 := hb14.size
  replace bx0_0 : w14.cell? ⟨w.heap.size, 0, none⟩ = some (.int .i64 a0.id) := (hb14.cell (p := ⟨w.heap.size, 0, none⟩) bl0).trans bx0_0
  replace bx0_1 : w14.cell? ⟨w.heap.size, 1, none⟩ = some (.int .i64 a0.series) := (hb14.cell (p := ⟨w.heap.size, 1, none⟩) bl0).trans bx0_1
  replace bx0_2 : w14.cell? ⟨w.heap.size, 2, none⟩ = some (.int .i64 a0.made) := (hb14.cell (p := ⟨w.heap.size, 2, none⟩) bl0).trans bx0_2
  replace bx0_3 : w14.cell? ⟨w.heap.size, 3, none⟩ = some (.slice a0.A a0.evs.length a0.c) := (hb14.cell (p := ⟨w.heap.size, 3, none⟩) bl0).trans bx0_3
  replace bl0 := Nat.lt_of_lt_of_le bl0 hb14.size
  replace rb_w_0 : w14.cell? ⟨w3.heap.size, 0, none⟩ = some (.int .i64 (keepI (dropEB a0.id a0.series a0.made a0.evs a1) a0.id)) := (hb14.cell (p := ⟨w3.heap.size, 0, none⟩) rb_wl).trans rb_w_0
  replace rb_w_1 : w14.cell? ⟨w3.heap.size, 1, none⟩ = some (.int .i64 (keepI (dropEB a0.id a0.series a0.made a0.evs a1) a0.series)) := (hb14.cell (p := ⟨w3.heap.size, 1, none⟩) rb_wl).trans rb_w_1
  replace rb_w_2 : w14.cell? ⟨w3.heap.size, 2, none⟩ = some (.int .i64 (keepI (dropEB a0.id a0.series a0.made a0.evs a1) a0.made)) := (hb14.cell (p := ⟨w3.heap.size, 2, none⟩) rb_wl).trans rb_w_2
  replace rb_w_3 : w14.cell? ⟨w3.heap.size, 3, none⟩ = some (.slice A_w (dropEL a0.id a0.series a0.made a0.evs a1).length C_w) := (hb14.cell (p := ⟨w3.heap.size, 3, none⟩) rb_wl).trans rb_w_3
  replace rb_wl := Nat.lt_of_lt_of_le rb_wl hb14.size
  replace xb0_0 : w14.cell? ⟨w4.heap.size, 0, none⟩ = some (.int .i64 a0.id) := (hb14.cell (p := ⟨w4.heap.size, 0, none⟩) xb0l).trans xb0_0
  replace xb0_1 : w14.cell? ⟨w4.heap.size, 1, none⟩ = some (.int .i64 a0.series) := (hb14.cell (p := ⟨w4.heap.size, 1, none⟩) xb0l).trans xb0_1
  replace xb0_2 : w14.cell? ⟨w4.heap.size, 2, none⟩ = some (.int .i64 a0.made) := (hb14.cell (p := ⟨w4.heap.size, 2, none⟩) xb0l).trans xb0_2
  replace xb0_3 : w14.cell? ⟨w4.heap.size, 3, none⟩ = some (.slice (some ⟨g_x0, 0, none⟩) a0.evs.length a0.evs.length) := (hb14.cell (p := ⟨w4.heap.size, 3, none⟩) xb0l).trans xb0_3
  replace xb0l := Nat.lt_of_lt_of_le xb0l hb14.size
  replace rb_g_0 : w14.cell? ⟨w5.heap.size, 0, none⟩ = some (.int .i64 (keepI (dropEB a0.id a0.series a0.made a0.evs a1) a0.id)) := (hb14.cell (p := ⟨w5.heap.size, 0, none⟩) rb_gl).trans rb_g_0
  replace rb_g_1 : w14.cell? ⟨w5.heap.size, 1, none⟩ = some (.int .i64 (keepI (dropEB a0.id a0.series a0.made a0.evs a1) a0.series)) := (hb14.cell (p := ⟨w5.heap.size, 1, none⟩) rb_gl).trans rb_g_1
  replace rb_g_2 : w14.cell? ⟨w5.heap.size, 2, none⟩ = some (.int .i64 (keepI (dropEB a0.id a0.series a0.made a0.evs a1) a0.made)) := (hb14.cell (p := ⟨w5.heap.size, 2, none⟩) rb_gl).trans rb_g_2
  replace rb_g_3 : w14.cell? ⟨w5.heap.size, 3, none⟩ = some (.slice A_g (dropEL a0.id a0.series a0.made a0.evs a1).length C_g) := (hb14.cell (p := ⟨w5.heap.size, 3, none⟩) rb_gl).trans rb_g_3
  replace rb_gl := Nat.lt_of_lt_of_le rb_gl hb14.size
  replace o_w := o_w.below (hb14.mono ble_w)
  replace ble_w := Nat.le_trans ble_w hb14.size
  replace o_m := (o_m.below hb14).more hb14.size
  replace o_u0 := o_u0.below hb14 o_u0.lt
  go_wp2_with fail
  have hbA4 : Below w14.heap.size w14 (w14.alloc (.cells #[.int .i64 (keepI (dropEB a0.id a0.series a0.made a0.evs a1) a0.id), .int .i64 (keepI (dropEB a0.id a0.series a0.made a0.evs a1) a0.series), .int .i64 (keepI (dropEB a0.id a0.series a0.made a0.evs a1) a0.made), .slice A_h (dropEL a0.id a0.series a0.made a0.evs a1).length C_h] 30)) := (Below.refl _ _).alloc (Nat.le_refl _) _
  have rb_h_0 : (w14.alloc (.cells #[.int .i64 (keepI (dropEB a0.id a0.series a0.made a0.evs a1) a0.id), .int .i64 (keepI (dropEB a0.id a0.series a0.made a0.evs a1) a0.series), .int .i64 (keepI (dropEB a0.id a0.series a0.made a0.evs a1) a0.made), .slice A_h (dropEL a0.id a0.series a0.made a0.evs a1).length C_h] 30)).cell? ⟨w14.heap.size, 0, none⟩ = some (.int .i64 (keepI (dropEB a0.id a0.series a0.made a0.evs a1) a0.id)) := by simp
  have rb_h_1 : (w14.alloc (.cells #[.int .i64 (keepI (dropEB a0.id a0.series a0.made a0.evs a1) a0.id), .int .i64 (keepI (dropEB a0.id a0.series a0.made a0.evs a1) a0.series), .int .i64 (keepI (dropEB a0.id a0.series a0.made a0.evs a1) a0.made), .slice A_h (dropEL a0.id a0.series a0.made a0.evs a1).length C_h] 30)).cell? ⟨w14.heap.size, 1, none⟩ = some (.int .i64 (keepI (dropEB a0.id a0.series a0.made a0.evs a1) a0.series)) := by simp
  have rb_h_2 : (w14.alloc (.cells #[.int .i64 (keepI (dropEB a0.id a0.series a0.made a0.evs a1) a0.id), .int .i64 (keepI (dropEB a0.id a0.series a0.made a0.evs a1) a0.series), .int .i64 (keepI (dropEB a0.id a0.series a0.made a0.evs a1) a0.made), .slice A_h (dropEL a0.id a0.series a0.made a0.evs a1).length C_h] 30)).cell? ⟨w14.heap.size, 2, none⟩ = some (.int .i64 (keepI (dropEB a0.id a0.series a0.made a0.evs a1) a0.made)) := by simp
  have rb_h_3 : (w14.alloc (.cells #[.int .i64 (keepI (dropEB a0.id a0.series a0.made a0.evs a1) a0.id), .int .i64 (keepI (dropEB a0.id a0.series a0.made a0.evs a1) a0.series), .int .i64 (keepI (dropEB a0.id a0.series a0.made a0.evs a1) a0.made), .slice A_h (dropEL a0.id a0.series a0.made a0.evs a1).length C_h] 30)).cell? ⟨w14.heap.size, 3, none⟩ = some (.slice A_h (dropEL a0.id a0.series a0.made a0.evs a1).length C_h) := by simp
  have rb_hl : w14.heap.size < (w14.alloc (.cells #[.int .i64 (keepI (dropEB a0.id a0.series a0.made a0.evs a1) a0.id), .int .i64 (keepI (dropEB a0.id a0.series a0.made a0.evs a1) a0.series), .int .i64 (keepI (dropEB a0.id a0.series a0.made a0.evs a1) a0.made), .slice A_h (dropEL a0.id a0.series a0.made a0.evs a1).length C_h] 30)).heap.size := by simp
  have rb_hz : w.heap.size ≤ w14.heap.size := h14.size
  generalize (w14.alloc (.cells #[.int .i64 (keepI (dropEB a0.id a0.series a0.made a0.evs a1) a0.id), .int .i64 (keepI (dropEB a0.id a0.series a0.made a0.evs a1) a0.series), .int .i64 (keepI (dropEB a0.id a0.series a0.made a0.evs a1) a0.made), .slice A_h (dropEL a0.id a0.series a0.made a0.evs a1).length C_h] 30)) = wA4 at *
  have rb_hlk := rb_hl
  have hA4 := blw h14 hbA4
  have zA4 := hbA4.size
  replace bx0_0 : wA4.cell? ⟨w.heap.size, 0, none⟩ = some (.int .i64 a0.id) := (hbA4.cell (p := ⟨w.heap.size, 0, none⟩) bl0).trans bx0_0
  replace bx0_1 : wA4.cell? ⟨w.heap.size, 1, none⟩ = some (.int .i64 a0.series) := (hbA4.cell (p := ⟨w.heap.size, 1, none⟩) bl0).trans bx0_1
  replace bx0_2 : wA4.cell? ⟨w.heap.size, 2, none⟩ = some (.int .i64 a0.made) := (hbA4.cell (p := ⟨w.heap.size, 2, none⟩) bl0).trans bx0_2
  replace bx0_3 : wA4.cell? ⟨w.heap.size, 3, none⟩ = some (.slice a0.A a0.evs.length a0.c) := (hbA4.cell (p := ⟨w.heap.size, 3, none⟩) bl0).trans bx0_3
  replace bl0 := Nat.lt_of_lt_of_le bl0 hbA4.size
  replace rb_w_0 : wA4.cell? ⟨w3.heap.size, 0, none⟩ = some (.int .i64 (keepI (dropEB a0.id a0.series a0.made a0.evs a1) a0.id)) := (hbA4.cell (p := ⟨w3.heap.size, 0, none⟩) rb_wl).trans rb_w_0
  replace rb_w_1 : wA4.cell? ⟨w3.heap.size, 1, none⟩ = some (.int .i64 (keepI (dropEB a0.id a0.series a0.made a0.evs a1) a0.series)) := (hbA4.cell (p := ⟨w3.heap.size, 1, none⟩) rb_wl).trans rb_w_1
  replace rb_w_2 : wA4.cell? ⟨w3.heap.size, 2, none⟩ = some (.int .i64 (keepI (dropEB a0.id a0.series a0.made a0.evs a1) a0.made)) := (hbA4.cell (p := ⟨w3.heap.size, 2, none⟩) rb_wl).trans rb_w_2
  replace rb_w_3 : wA4.cell? ⟨w3.heap.size, 3, none⟩ = some (.slice A_w (dropEL a0.id a0.series a0.made a0.evs a1).length C_w) := (hbA4.cell (p := ⟨w3.heap.size, 3, none⟩) rb_wl).trans rb_w_3
  replace rb_wl := Nat.lt_of_lt_of_le rb_wl hbA4.size
  replace xb0_0 : wA4.cell? ⟨w4.heap.size, 0, none⟩ = some (.int .i64 a0.id) := (hbA4.cell (p := ⟨w4.heap.size, 0, none⟩) xb0l).trans xb0_0
  replace xb0_1 : wA4.cell? ⟨w4.heap.size, 1, none⟩ = some (.int .i64 a0.series) := (hbA4.cell (p := ⟨w4.heap.size, 1, none⟩) xb0l).trans xb0_1
  replace xb0_2 : wA4.cell? ⟨w4.heap.size, 2, none⟩ = some (.int .i64 a0.made) := (hbA4.cell (p := ⟨w4.heap.size, 2, none⟩) xb0l).trans xb0_2
  replace xb0_3 : wA4.cell? ⟨w4.heap.size, 3, none⟩ = some (.slice (some ⟨g_x0, 0, none⟩) a0.evs.length a0.evs.length) := (hbA4.cell (p := ⟨w4.heap.size, 3, none⟩) xb0l).trans xb0_3
  replace xb0l := Nat.lt_of_lt_of_le xb0l hbA4.size
  replace rb_g_0 : wA4.cell? ⟨w5.heap.size, 0, none⟩ = some (.int .i64 (keepI (dropEB a0.id a0.series a0.made a0.evs a1) a0.id)) := (hbA4.cell (p := ⟨w5.heap.size, 0, none⟩) rb_gl).trans rb_g_0
  replace rb_g_1 : wA4.cell? ⟨w5.heap.size, 1, none⟩ = some (.int .i64 (keepI (dropEB a0.id a0.series a0.made a0.evs a1) a0.series)) := (hbA4.cell (p := ⟨w5.heap.size, 1, none⟩) rb_gl).trans rb_g_1
  replace rb_g_2 : wA4.cell? ⟨w5.heap.size, 2, none⟩ = some (.int .i64 (keepI (dropEB a0.id a0.series a0.made a0.evs a1) a0.made)) := (hbA4.cell (p := ⟨w5.heap.size, 2, none⟩) rb_gl).trans rb_g_2
  replace rb_g_3 : wA4.cell? ⟨w5.heap.size, 3, none⟩ = some (.slice A_g (dropEL a0.id a0.series a0.made a0.evs a1).length C_g) := (hbA4.cell (p := ⟨w5.heap.size, 3, none⟩) rb_gl).trans rb_g_3
  replace rb_gl := Nat.lt_of_lt_of_le rb_gl hbA4.size
  replace o_w := o_w.below (hbA4.mono ble_w)
  replace ble_w := Nat.le_trans ble_w hbA4.size
  replace o_m := (o_m.below hbA4).more hbA4.size
  replace o_h := o_h.on hbA4
  refine (eqRecord_any _ _ _ _ _ _ _ (dropEL a0.id a0.series a0.made a0.evs a1) _ (o_h.ls encEv_len) (o_w.more ble_w) (by have := dropEL_le a0.id a0.series a0.made a0.evs a1; omega)).mono ?_
  rintro e w15 ⟨rfl, hb15⟩
  have h15 := blw hA4 hb15
  have z15 := hb15.size
  replace bx0_0 : w15.cell? ⟨w.heap.size, 0, none⟩ = some (.int .i64 a0.id) := (hb15.cell (p := ⟨w.heap.size, 0, none⟩) bl0).trans bx0_0
  replace bx0_1 : w15.cell? ⟨w.heap.size, 1, none⟩ = some (.int .i64 a0.series) := (hb15.cell (p := ⟨w.heap.size, 1, none⟩) bl0).trans bx0_1
  replace bx0_2 : w15.cell? ⟨w.heap.size, 2, none⟩ = some (.int .i64 a0.made) := (hb15.cell (p := ⟨w.heap.size, 2, none⟩) bl0).trans bx0_2
  replace bx0_3 : w15.cell? ⟨w.heap.size, 3, none⟩ = some (.slice a0.A a0.evs.length a0.c) := (hb15.cell (p := ⟨w.heap.size, 3, none⟩) bl0).trans bx0_3
  replace bl0 := Nat.lt_of_lt_of_le bl0 hb15.size
  replace rb_w_0 : w15.cell? ⟨w3.heap.size, 0, none⟩ = some (.int .i64 (keepI (dropEB a0.id a0.series a0.made a0.evs a1) a0.id)) := (hb15.cell (p := ⟨w3.heap.size, 0, none⟩) rb_wl).trans rb_w_0
  replace rb_w_1 : w15.cell? ⟨w3.heap.size, 1, none⟩ = some (.int .i64 (keepI (dropEB a0.id a0.series a0.made a0.evs a1) a0.series)) := (hb15.cell (p := ⟨w3.heap.size, 1, none⟩) rb_wl).trans rb_w_1
  replace rb_w_2 : w15.cell? ⟨w3.heap.size, 2, none⟩ = some (.int .i64 (keepI (dropEB a0.id a0.series a0.made a0.evs a1) a0.made)) := (hb15.cell (p := ⟨w3.heap.size, 2, none⟩) rb_wl).trans rb_w_2
  replace rb_w_3 : w15.cell? ⟨w3.heap.size, 3, none⟩ = some (.slice A_w (dropEL a0.id a0.series a0.made a0.evs a1).length C_w) := (hb15.cell (p := ⟨w3.heap.size, 3, none⟩) rb_wl).trans rb_w_3
  replace rb_wl := Nat.lt_of_lt_of_le rb_wl hb15.size
  replace xb0_0 : w15.cell? ⟨w4.heap.size, 0, none⟩ = some (.int .i64 a0.id) := (hb15.cell (p := ⟨w4.heap.size, 0, none⟩) xb0l).trans xb0_0
  replace xb0_1 : w15.cell? ⟨w4.heap.size, 1, none⟩ = some (.int .i64 a0.series) := (hb15.cell (p := ⟨w4.heap.size, 1, none⟩) xb0l).trans xb0_1
  replace xb0_2 : w15.cell? ⟨w4.heap.size, 2, none⟩ = some (.int .i64 a0.made) := (hb15.cell (p := ⟨w4.heap.size, 2, none⟩) xb0l).trans xb0_2
  replace xb0_3 : w15.cell? ⟨w4.heap.size, 3, none⟩ = some (.slice (some ⟨g_x0, 0, none⟩) a0.evs.length a0.evs.length) := (hb15.cell (p := ⟨w4.heap.size, 3, none⟩) xb0l).trans xb0_3
  replace xb0l := Nat.lt_of_lt_of_le xb0l hb15.size
  replace rb_g_0 : w15.cell? ⟨w5.heap.size, 0, none⟩ = some (.int .i64 (keepI (dropEB a0.id a0.series a0.made a0.evs a1) a0.id)) := (hb15.cell (p := ⟨w5.heap.size, 0, none⟩) rb_gl).trans rb_g_0
  replace rb_g_1 : w15.cell? ⟨w5.heap.size, 1, none⟩ = some (.int .i64 (keepI (dropEB a0.id a0.series a0.made a0.evs a1) a0.series)) := (hb15.cell (p := ⟨w5.heap.size, 1, none⟩) rb_gl).trans rb_g_1
  replace rb_g_2 : w15.cell? ⟨w5.heap.size, 2, none⟩ = some (.int .i64 (keepI (dropEB a0.id a0.series a0.made a0.evs a1) a0.made)) := (hb15.cell (p := ⟨w5.heap.size, 2, none⟩) rb_gl).trans rb_g_2
  replace rb_g_3 : w15.cell? ⟨w5.heap.size, 3, none⟩ = some (.slice A_g (dropEL a0.id a0.series a0.made a0.evs a1).length C_g) := (hb15.cell (p := ⟨w5.heap.size, 3, none⟩) rb_gl).trans rb_g_3
  replace rb_gl := Nat.lt_of_lt_of_le rb_gl hb15.size
  replace rb_h_0 : w15.cell? ⟨w14.heap.size, 0, none⟩ = some (.int .i64 (keepI (dropEB a0.id a0.series a0.made a0.evs a1) a0.id)) := (hb15.cell (p := ⟨w14.heap.size, 0, none⟩) rb_hl).trans rb_h_0
  replace rb_h_1 : w15.cell? ⟨w14.heap.size, 1, none⟩ = some (.int .i64 (keepI (dropEB a0.id a0.series a0.made a0.evs a1) a0.series)) := (hb15.cell (p := ⟨w14.heap.size, 1, none⟩) rb_hl).trans rb_h_1
  replace rb_h_2 : w15.cell? ⟨w14.heap.size, 2, none⟩ = some (.int .i64 (keepI (dropEB a0.id a0.series a0.made a0.evs a1) a0.made)) := (hb15.cell (p := ⟨w14.heap.size, 2, none⟩) rb_hl).trans rb_h_2
  replace rb_h_3 : w15.cell? ⟨w14.heap.size, 3, none⟩ = some (.slice A_h (dropEL a0.id a0.series a0.made a0.evs a1).length C_h) := (hb15.cell (p := ⟨w14.heap.size, 3, none⟩) rb_hl).trans rb_h_3
  replace rb_hl := Nat.lt_of_lt_of_le rb_hl hb15.size
  replace o_w := o_w.below (hb15.mono ble_w)
  replace ble_w := Nat.le_trans ble_w hb15.size
  replace o_m := (o_m.below hb15).more hb15.size
  replace o_h := o_h.on hb15
  go_wp2_with fail
  refine (heldRecord_any _ _ _ _ _ _ _ _ o_m (by have := dropEL_le a0.id a0.series a0.made a0.evs a1; omega) (by omega) (by omega)).mono ?_
  rintro e w16 ⟨rfl, hb16⟩
  have h16 := blw h15 hb16
  have z16 := hb16.size
  replace bx0_0 : w16.cell? ⟨w.heap.size, 0, none⟩ = some (.int .i64 a0.id) := (hb16.cell (p := ⟨w.heap.size, 0, none⟩) bl0).trans bx0_0
  replace bx0_1 : w16.cell? ⟨w.heap.size, 1, none⟩ = some (.int .i64 a0.series) := (hb16.cell (p := ⟨w.heap.size, 1, none⟩) bl0).trans bx0_1
  replace bx0_2 : w16.cell? ⟨w.heap.size, 2, none⟩ = some (.int .i64 a0.made) := (hb16.cell (p := ⟨w.heap.size, 2, none⟩) bl0).trans bx0_2
  replace bx0_3 : w16.cell? ⟨w.heap.size, 3, none⟩ = some (.slice a0.A a0.evs.length a0.c) := (hb16.cell (p := ⟨w.heap.size, 3, none⟩) bl0).trans bx0_3
  replace bl0 := Nat.lt_of_lt_of_le bl0 hb16.size
  replace rb_w_0 : w16.cell? ⟨w3.heap.size, 0, none⟩ = some (.int .i64 (keepI (dropEB a0.id a0.series a0.made a0.evs a1) a0.id)) := (hb16.cell (p := ⟨w3.heap.size, 0, none⟩) rb_wl).trans rb_w_0
  replace rb_w_1 : w16.cell? ⟨w3.heap.size, 1, none⟩ = some (.int .i64 (keepI (dropEB a0.id a0.series a0.made a0.evs a1) a0.series)) := (hb16.cell (p := ⟨w3.heap.size, 1, none⟩) rb_wl).trans rb_w_1
  replace rb_w_2 : w16.cell? ⟨w3.heap.size, 2, none⟩ = some (.int .i64 (keepI (dropEB a0.id a0.series a0.made a0.evs a1) a0.made)) := (hb16.cell (p := ⟨w3.heap.size, 2, none⟩) rb_wl).trans rb_w_2
  replace rb_w_3 : w16.cell? ⟨w3.heap.size, 3, none⟩ = some (.slice A_w (dropEL a0.id a0.series a0.made a0.evs a1).length C_w) := (hb16.cell (p := ⟨w3.heap.size, 3, none⟩) rb_wl).trans rb_w_3
  replace rb_wl := Nat.lt_of_lt_of_le rb_wl hb16.size
  replace xb0_0 : w16.cell? ⟨w4.heap.size, 0, none⟩ = some (.int .i64 a0.id) := (hb16.cell (p := ⟨w4.heap.size, 0, none⟩) xb0l).trans xb0_0
  replace xb0_1 : w16.cell? ⟨w4.heap.size, 1, none⟩ = some (.int .i64 a0.series) := (hb16.cell (p := ⟨w4.heap.size, 1, none⟩) xb0l).trans xb0_1
  replace xb0_2 : w16.cell? ⟨w4.heap.size, 2, none⟩ = some (.int .i64 a0.made) := (hb16.cell (p := ⟨w4.heap.size, 2, none⟩) xb0l).trans xb0_2
  replace xb0_3 : w16.cell? ⟨w4.heap.size, 3, none⟩ = some (.slice (some ⟨g_x0, 0, none⟩) a0.evs.length a0.evs.length) := (hb16.cell (p := ⟨w4.heap.size, 3, none⟩) xb0l).trans xb0_3
  replace xb0l := Nat.lt_of_lt_of_le xb0l hb16.size
  replace rb_g_0 : w16.cell? ⟨w5.heap.size, 0, none⟩ = some (.int .i64 (keepI (dropEB a0.id a0.series a0.made a0.evs a1) a0.id)) := (hb16.cell (p := ⟨w5.heap.size, 0, none⟩) rb_gl).trans rb_g_0
  replace rb_g_1 : w16.cell? ⟨w5.heap.size, 1, none⟩ = some (.int .i64 (keepI (dropEB a0.id a0.series a0.made a0.evs a1) a0.series)) := (hb16.cell (p := ⟨w5.heap.size, 1, none⟩) rb_gl).trans rb_g_1
  replace rb_g_2 : w16.cell? ⟨w5.heap.size, 2, none⟩ = some (.int .i64 (keepI (dropEB a0.id a0.series a0.made a0.evs a1) a0.made)) := (hb16.cell (p := ⟨w5.heap.size, 2, none⟩) rb_gl).trans rb_g_2
  replace rb_g_3 : w16.cell? ⟨w5.heap.size, 3, none⟩ = some (.slice A_g (dropEL a0.id a0.series a0.made a0.evs a1).length C_g) := (hb16.cell (p := ⟨w5.heap.size, 3, none⟩) rb_gl).trans rb_g_3
  replace rb_gl := Nat.lt_of_lt_of_le rb_gl hb16.size
  replace rb_h_0 : w16.cell? ⟨w14.heap.size, 0, none⟩ = some (.int .i64 (keepI (dropEB a0.id a0.series a0.made a0.evs a1) a0.id)) := (hb16.cell (p := ⟨w14.heap.size, 0, none⟩) rb_hl).trans rb_h_0
  replace rb_h_1 : w16.cell? ⟨w14.heap.size, 1, none⟩ = some (.int .i64 (keepI (dropEB a0.id a0.series a0.made a0.evs a1) a0.series)) := (hb16.cell (p := ⟨w14.heap.size, 1, none⟩) rb_hl).trans rb_h_1
  replace rb_h_2 : w16.cell? ⟨w14.heap.size, 2, none⟩ = some (.int .i64 (keepI (dropEB a0.id a0.series a0.made a0.evs a1) a0.made)) := (hb16.cell (p := ⟨w14.heap.size, 2, none⟩) rb_hl).trans rb_h_2
  replace rb_h_3 : w16.cell? ⟨w14.heap.size, 3, none⟩ = some (.slice A_h (dropEL a0.id a0.series a0.made a0.evs a1).length C_h) := (hb16.cell (p := ⟨w14.heap.size, 3, none⟩) rb_hl).trans rb_h_3
  replace rb_hl := Nat.lt_of_lt_of_le rb_hl hb16.size
  replace o_w := o_w.below (hb16.mono ble_w)
  replace ble_w := Nat.le_trans ble_w hb16.size
  replace o_m := (o_m.below hb16).more hb16.size
  replace o_h := o_h.on hb16
  go_wp2_with fail
  go_ret
  exact ⟨rfl, h16⟩

end Go.Proofs.Ytjbklopkginegaa
