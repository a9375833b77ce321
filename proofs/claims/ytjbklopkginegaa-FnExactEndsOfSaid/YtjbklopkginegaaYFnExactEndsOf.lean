/- The law of EndsOf, walked. -/
import Derived.Test.YtjbklopkginegaaW6c
import Derived.Test.YtjbklopkginegaaHRule
import Derived.Test.YtjbklopkginegaaHInt
import Derived.Deep.RegionHeld3
namespace Go.Proofs.Ytjbklopkginegaa
set_option linter.unusedVariables false
set_option linter.unusedSimpArgs false
open Go.RowKit
attribute [local go_sem] Aft.cell

set_option maxHeartbeats 4000000 in
theorem walk_FnExactEndsOf (a0 : Rec) (A1 : Option Addr) (c1 : Nat) (a1 : List RuleD) (w : World) (ok0 : okRec w a0) (ok1 : okSl w encRule 4 okRule A1 a1) :
    Calls Try.prog 12 #[.agg #[.int .i64 a0.id, .int .i64 a0.series, .int .i64 a0.made, .slice a0.A a0.evs.length a0.c], .slice A1 a1.length c1] w fun e w' => e = .returned (.bool true) ∧ Below w.heap.size w w' := by
  obtain ⟨hrg0a, hrg0b, hrg0c, hl0, hok0, hmx0⟩ := ok0
  obtain ⟨hl1, hok1, hmx1⟩ := ok1
  go_enter Try.func12, Try.ntmps12
  go_wp2_with fail
  have h0 : Below w.heap.size w (w.alloc (.cells #[.int .i64 a0.id, .int .i64 a0.series, .int .i64 a0.made, .slice a0.A a0.evs.length a0.c] 24)) := (blw_alloc (Below.refl w.heap.size w) _)
  have bx0_0 : (w.alloc (.cells #[.int .i64 a0.id, .int .i64 a0.series, .int .i64 a0.made, .slice a0.A a0.evs.length a0.c] 24)).cell? ⟨w.heap.size, 0, none⟩ = some (.int .i64 a0.id) := by simp [World.cell?_alloc_lt]
  have bx0_1 : (w.alloc (.cells #[.int .i64 a0.id, .int .i64 a0.series, .int .i64 a0.made, .slice a0.A a0.evs.length a0.c] 24)).cell? ⟨w.heap.size, 1, none⟩ = some (.int .i64 a0.series) := by simp [World.cell?_alloc_lt]
  have bx0_2 : (w.alloc (.cells #[.int .i64 a0.id, .int .i64 a0.series, .int .i64 a0.made, .slice a0.A a0.evs.length a0.c] 24)).cell? ⟨w.heap.size, 2, none⟩ = some (.int .i64 a0.made) := by simp [World.cell?_alloc_lt]
  have bx0_3 : (w.alloc (.cells #[.int .i64 a0.id, .int .i64 a0.series, .int .i64 a0.made, .slice a0.A a0.evs.length a0.c] 24)).cell? ⟨w.heap.size, 3, none⟩ = some (.slice a0.A a0.evs.length a0.c) := by simp [World.cell?_alloc_lt]
  have bl0 : w.heap.size < (w.alloc (.cells #[.int .i64 a0.id, .int .i64 a0.series, .int .i64 a0.made, .slice a0.A a0.evs.length a0.c] 24)).heap.size := by simp; try omega
  generalize (w.alloc (.cells #[.int .i64 a0.id, .int .i64 a0.series, .int .i64 a0.made, .slice a0.A a0.evs.length a0.c] 24)) = W0 at *
  have bl0k := bl0
  go_wp2_with fail
  refine (szRecord_sz _ _ _ _ _ _ _ _ hmx0 (by omega) (by omega)).mono ?_
  rintro e w1 ⟨r1, rfl, hra1, hrb1, hrp1, hb1⟩
  have h1 := blw h0 hb1
  have z1 := hb1.size
  replace bx0_0 : w1.cell? ⟨w.heap.size, 0, none⟩ = some (.int .i64 a0.id) := (hb1.cell (p := ⟨w.heap.size, 0, none⟩) bl0).trans bx0_0
  replace bx0_1 : w1.cell? ⟨w.heap.size, 1, none⟩ = some (.int .i64 a0.series) := (hb1.cell (p := ⟨w.heap.size, 1, none⟩) bl0).trans bx0_1
  replace bx0_2 : w1.cell? ⟨w.heap.size, 2, none⟩ = some (.int .i64 a0.made) := (hb1.cell (p := ⟨w.heap.size, 2, none⟩) bl0).trans bx0_2
  replace bx0_3 : w1.cell? ⟨w.heap.size, 3, none⟩ = some (.slice a0.A a0.evs.length a0.c) := (hb1.cell (p := ⟨w.heap.size, 3, none⟩) bl0).trans bx0_3
  replace bl0 := Nat.lt_of_lt_of_le bl0 hb1.size
  by_cases hneg1 : r1 < 0
  · clear hrp1
    go_wp2_with fail
    go_ret
    exact ⟨rfl, h1⟩
  have hn0 := hrp1 (by omega)
  clear hrp1
  have hnn1 : ¬ r1 < 0 := hneg1
  go_wp2_with fail
  refine (szRuleS_sz _ _ _ _ _ hmx1 (by omega) (by omega)).mono ?_
  rintro e w2 ⟨r2, rfl, hra2, hrb2, hrp2, hb2⟩
  have h2 := blw h1 hb2
  have z2 := hb2.size
  replace bx0_0 : w2.cell? ⟨w.heap.size, 0, none⟩ = some (.int .i64 a0.id) := (hb2.cell (p := ⟨w.heap.size, 0, none⟩) bl0).trans bx0_0
  replace bx0_1 : w2.cell? ⟨w.heap.size, 1, none⟩ = some (.int .i64 a0.series) := (hb2.cell (p := ⟨w.heap.size, 1, none⟩) bl0).trans bx0_1
  replace bx0_2 : w2.cell? ⟨w.heap.size, 2, none⟩ = some (.int .i64 a0.made) := (hb2.cell (p := ⟨w.heap.size, 2, none⟩) bl0).trans bx0_2
  replace bx0_3 : w2.cell? ⟨w.heap.size, 3, none⟩ = some (.slice a0.A a0.evs.length a0.c) := (hb2.cell (p := ⟨w.heap.size, 3, none⟩) bl0).trans bx0_3
  replace bl0 := Nat.lt_of_lt_of_le bl0 hb2.size
  by_cases hneg2 : r2 < 0
  · clear hrp2
    go_wp2_with fail
    go_ret
    exact ⟨rfl, h2⟩
  have hn1 := hrp2 (by omega)
  clear hrp2
  have hnn2 : ¬ r2 < 0 := hneg2
  go_wp2_with fail
  refine (toRecord_any _ _ _ _ _ a0.evs _ ((hl0.below h2).more h2.size) hn0).mono ?_
  rintro e w3 ⟨g_s0, gl_s0, rfl, o_s0, hb3⟩
  have h3 := blw h2 hb3
  have z3 := hb3.size
  replace bx0_0 : w3.cell? ⟨w.heap.size, 0, none⟩ = some (.int .i64 a0.id) := (hb3.cell (p := ⟨w.heap.size, 0, none⟩) bl0).trans bx0_0
  replace bx0_1 : w3.cell? ⟨w.heap.size, 1, none⟩ = some (.int .i64 a0.series) := (hb3.cell (p := ⟨w.heap.size, 1, none⟩) bl0).trans bx0_1
  replace bx0_2 : w3.cell? ⟨w.heap.size, 2, none⟩ = some (.int .i64 a0.made) := (hb3.cell (p := ⟨w.heap.size, 2, none⟩) bl0).trans bx0_2
  replace bx0_3 : w3.cell? ⟨w.heap.size, 3, none⟩ = some (.slice a0.A a0.evs.length a0.c) := (hb3.cell (p := ⟨w.heap.size, 3, none⟩) bl0).trans bx0_3
  replace bl0 := Nat.lt_of_lt_of_le bl0 hb3.size
  have y_s0 := o_s0.lt
  go_wp2_with fail
  refine (toRuleS_any _ _ a1 _ ((hl1.below h3).more h3.size) hn1).mono ?_
  rintro e w4 ⟨g_s1, gl_s1, rfl, o_s1, hb4⟩
  have h4 := blw h3 hb4
  have z4 := hb4.size
  replace bx0_0 : w4.cell? ⟨w.heap.size, 0, none⟩ = some (.int .i64 a0.id) := (hb4.cell (p := ⟨w.heap.size, 0, none⟩) bl0).trans bx0_0
  replace bx0_1 : w4.cell? ⟨w.heap.size, 1, none⟩ = some (.int .i64 a0.series) := (hb4.cell (p := ⟨w.heap.size, 1, none⟩) bl0).trans bx0_1
  replace bx0_2 : w4.cell? ⟨w.heap.size, 2, none⟩ = some (.int .i64 a0.made) := (hb4.cell (p := ⟨w.heap.size, 2, none⟩) bl0).trans bx0_2
  replace bx0_3 : w4.cell? ⟨w.heap.size, 3, none⟩ = some (.slice a0.A a0.evs.length a0.c) := (hb4.cell (p := ⟨w.heap.size, 3, none⟩) bl0).trans bx0_3
  replace bl0 := Nat.lt_of_lt_of_le bl0 hb4.size
  replace o_s0 := o_s0.below hb4 o_s0.lt
  have y_s1 := o_s1.lt
  go_wp2_with fail
  refine (c_spec_EndsOf _ _ _ _ _ a0.evs _ _ a1 _ (o_s0.ls encEv_len) hn0 (o_s1.ls encRule_len) hn1).mono ?_
  rintro e w5 ⟨A_w, C_w, rfl, o_w, hb5⟩
  have h5 := blw h4 hb5
  have z5 := hb5.size
  replace bx0_0 : w5.cell? ⟨w.heap.size, 0, none⟩ = some (.int .i64 a0.id) := (hb5.cell (p := ⟨w.heap.size, 0, none⟩) bl0).trans bx0_0
  replace bx0_1 : w5.cell? ⟨w.heap.size, 1, none⟩ = some (.int .i64 a0.series) := (hb5.cell (p := ⟨w.heap.size, 1, none⟩) bl0).trans bx0_1
  replace bx0_2 : w5.cell? ⟨w.heap.size, 2, none⟩ = some (.int .i64 a0.made) := (hb5.cell (p := ⟨w.heap.size, 2, none⟩) bl0).trans bx0_2
  replace bx0_3 : w5.cell? ⟨w.heap.size, 3, none⟩ = some (.slice a0.A a0.evs.length a0.c) := (hb5.cell (p := ⟨w.heap.size, 3, none⟩) bl0).trans bx0_3
  replace bl0 := Nat.lt_of_lt_of_le bl0 hb5.size
  replace o_s0 := o_s0.below hb5 o_s0.lt
  replace o_s1 := o_s1.below hb5 o_s1.lt
  have bk_w : ∀ b, blkOf A_w b → w4.heap.size ≤ b := fun b hb => (o_w.block hb).1
  replace o_w := o_w.ls encInt_len
  have ble_w : w5.heap.size ≤ w5.heap.size := Nat.le_refl _
  have Bw : ∃ n, n = w5.heap.size := ⟨_, rfl⟩
  obtain ⟨Bw, hBw⟩ := Bw
  rw [← hBw] at o_w
  have ble_w : Bw ≤ w5.heap.size := Nat.le_of_eq hBw
  have bw0 := ble_w
  have HBw := Lib.hid hBw
  clear hBw bk_w
  go_wp2_with fail
  refine (toRecord_any _ _ _ _ _ a0.evs _ ((hl0.below h5).more h5.size) hn0).mono ?_
  rintro e w6 ⟨g_x0, gl_x0, rfl, o_x0, hb6⟩
  have h6 := blw h5 hb6
  have z6 := hb6.size
  replace bx0_0 : w6.cell? ⟨w.heap.size, 0, none⟩ = some (.int .i64 a0.id) := (hb6.cell (p := ⟨w.heap.size, 0, none⟩) bl0).trans bx0_0
  replace bx0_1 : w6.cell? ⟨w.heap.size, 1, none⟩ = some (.int .i64 a0.series) := (hb6.cell (p := ⟨w.heap.size, 1, none⟩) bl0).trans bx0_1
  replace bx0_2 : w6.cell? ⟨w.heap.size, 2, none⟩ = some (.int .i64 a0.made) := (hb6.cell (p := ⟨w.heap.size, 2, none⟩) bl0).trans bx0_2
  replace bx0_3 : w6.cell? ⟨w.heap.size, 3, none⟩ = some (.slice a0.A a0.evs.length a0.c) := (hb6.cell (p := ⟨w.heap.size, 3, none⟩) bl0).trans bx0_3
  replace bl0 := Nat.lt_of_lt_of_le bl0 hb6.size
  replace o_w := o_w.below (hb6.mono ble_w)
  replace ble_w := Nat.le_trans ble_w hb6.size
  have y_x0 := o_x0.lt
  have gw_x0 : Bw ≤ g_x0 := Nat.le_trans (by omega) gl_x0
  go_wp2_with fail
  have hbA1 : Below w6.heap.size w6 (w6.alloc (.cells #[.int .i64 a0.id, .int .i64 a0.series, .int .i64 a0.made, .slice (some ⟨g_x0, 0, none⟩) a0.evs.length a0.evs.length] 30)) := (Below.refl _ _).alloc (Nat.le_refl _) _
  have xb0_0 : (w6.alloc (.cells #[.int .i64 a0.id, .int .i64 a0.series, .int .i64 a0.made, .slice (some ⟨g_x0, 0, none⟩) a0.evs.length a0.evs.length] 30)).cell? ⟨w6.heap.size, 0, none⟩ = some (.int .i64 a0.id) := by simp
  have xb0_1 : (w6.alloc (.cells #[.int .i64 a0.id, .int .i64 a0.series, .int .i64 a0.made, .slice (some ⟨g_x0, 0, none⟩) a0.evs.length a0.evs.length] 30)).cell? ⟨w6.heap.size, 1, none⟩ = some (.int .i64 a0.series) := by simp
  have xb0_2 : (w6.alloc (.cells #[.int .i64 a0.id, .int .i64 a0.series, .int .i64 a0.made, .slice (some ⟨g_x0, 0, none⟩) a0.evs.length a0.evs.length] 30)).cell? ⟨w6.heap.size, 2, none⟩ = some (.int .i64 a0.made) := by simp
  have xb0_3 : (w6.alloc (.cells #[.int .i64 a0.id, .int .i64 a0.series, .int .i64 a0.made, .slice (some ⟨g_x0, 0, none⟩) a0.evs.length a0.evs.length] 30)).cell? ⟨w6.heap.size, 3, none⟩ = some (.slice (some ⟨g_x0, 0, none⟩) a0.evs.length a0.evs.length) := by simp
  have xb0l : w6.heap.size < (w6.alloc (.cells #[.int .i64 a0.id, .int .i64 a0.series, .int .i64 a0.made, .slice (some ⟨g_x0, 0, none⟩) a0.evs.length a0.evs.length] 30)).heap.size := by simp
  have xb0z : w.heap.size ≤ w6.heap.size := h6.size
  generalize (w6.alloc (.cells #[.int .i64 a0.id, .int .i64 a0.series, .int .i64 a0.made, .slice (some ⟨g_x0, 0, none⟩) a0.evs.length a0.evs.length] 30)) = wA1 at *
  have xb0lk := xb0l
  have hA1 := blw h6 hbA1
  have zA1 := hbA1.size
  replace bx0_0 : wA1.cell? ⟨w.heap.size, 0, none⟩ = some (.int .i64 a0.id) := (hbA1.cell (p := ⟨w.heap.size, 0, none⟩) bl0).trans bx0_0
  replace bx0_1 : wA1.cell? ⟨w.heap.size, 1, none⟩ = some (.int .i64 a0.series) := (hbA1.cell (p := ⟨w.heap.size, 1, none⟩) bl0).trans bx0_1
  replace bx0_2 : wA1.cell? ⟨w.heap.size, 2, none⟩ = some (.int .i64 a0.made) := (hbA1.cell (p := ⟨w.heap.size, 2, none⟩) bl0).trans bx0_2
  replace bx0_3 : wA1.cell? ⟨w.heap.size, 3, none⟩ = some (.slice a0.A a0.evs.length a0.c) := (hbA1.cell (p := ⟨w.heap.size, 3, none⟩) bl0).trans bx0_3
  replace bl0 := Nat.lt_of_lt_of_le bl0 hbA1.size
  replace o_w := o_w.below (hbA1.mono ble_w)
  replace ble_w := Nat.le_trans ble_w hbA1.size
  replace o_x0 := o_x0.below hbA1 o_x0.lt
  refine (toRuleS_any _ _ a1 _ ((hl1.below hA1).more hA1.size) hn1).mono ?_
  rintro e w7 ⟨g_x1, gl_x1, rfl, o_x1, hb7⟩
  have h7 := blw hA1 hb7
  have z7 := hb7.size
  replace bx0_0 : w7.cell? ⟨w.heap.size, 0, none⟩ = some (.int .i64 a0.id) := (hb7.cell (p := ⟨w.heap.size, 0, none⟩) bl0).trans bx0_0
  replace bx0_1 : w7.cell? ⟨w.heap.size, 1, none⟩ = some (.int .i64 a0.series) := (hb7.cell (p := ⟨w.heap.size, 1, none⟩) bl0).trans bx0_1
  replace bx0_2 : w7.cell? ⟨w.heap.size, 2, none⟩ = some (.int .i64 a0.made) := (hb7.cell (p := ⟨w.heap.size, 2, none⟩) bl0).trans bx0_2
  replace bx0_3 : w7.cell? ⟨w.heap.size, 3, none⟩ = some (.slice a0.A a0.evs.length a0.c) := (hb7.cell (p := ⟨w.heap.size, 3, none⟩) bl0).trans bx0_3
  replace bl0 := Nat.lt_of_lt_of_le bl0 hb7.size
  replace xb0_0 : w7.cell? ⟨w6.heap.size, 0, none⟩ = some (.int .i64 a0.id) := (hb7.cell (p := ⟨w6.heap.size, 0, none⟩) xb0l).trans xb0_0
  replace xb0_1 : w7.cell? ⟨w6.heap.size, 1, none⟩ = some (.int .i64 a0.series) := (hb7.cell (p := ⟨w6.heap.size, 1, none⟩) xb0l).trans xb0_1
  replace xb0_2 : w7.cell? ⟨w6.heap.size, 2, none⟩ = some (.int .i64 a0.made) := (hb7.cell (p := ⟨w6.heap.size, 2, none⟩) xb0l).trans xb0_2
  replace xb0_3 : w7.cell? ⟨w6.heap.size, 3, none⟩ = some (.slice (some ⟨g_x0, 0, none⟩) a0.evs.length a0.evs.length) := (hb7.cell (p := ⟨w6.heap.size, 3, none⟩) xb0l).trans xb0_3
  replace xb0l := Nat.lt_of_lt_of_le xb0l hb7.size
  replace o_w := o_w.below (hb7.mono ble_w)
  replace ble_w := Nat.le_trans ble_w hb7.size
  replace o_x0 := o_x0.below hb7 o_x0.lt
  have y_x1 := o_x1.lt
  have gw_x1 : Bw ≤ g_x1 := Nat.le_trans (by omega) gl_x1
  go_wp2_with fail
  refine (c_impl_EndsOf _ _ _ _ _ a0.evs _ _ a1 _ (o_x0.ls encEv_len) hn0 (o_x1.ls encRule_len) hn1).mono ?_
  rintro e w8 ⟨A_g, C_g, rfl, o_g, hb8⟩
  have h8 := blw h7 hb8
  have z8 := hb8.size
  replace bx0_0 : w8.cell? ⟨w.heap.size, 0, none⟩ = some (.int .i64 a0.id) := (hb8.cell (p := ⟨w.heap.size, 0, none⟩) bl0).trans bx0_0
  replace bx0_1 : w8.cell? ⟨w.heap.size, 1, none⟩ = some (.int .i64 a0.series) := (hb8.cell (p := ⟨w.heap.size, 1, none⟩) bl0).trans bx0_1
  replace bx0_2 : w8.cell? ⟨w.heap.size, 2, none⟩ = some (.int .i64 a0.made) := (hb8.cell (p := ⟨w.heap.size, 2, none⟩) bl0).trans bx0_2
  replace bx0_3 : w8.cell? ⟨w.heap.size, 3, none⟩ = some (.slice a0.A a0.evs.length a0.c) := (hb8.cell (p := ⟨w.heap.size, 3, none⟩) bl0).trans bx0_3
  replace bl0 := Nat.lt_of_lt_of_le bl0 hb8.size
  replace xb0_0 : w8.cell? ⟨w6.heap.size, 0, none⟩ = some (.int .i64 a0.id) := (hb8.cell (p := ⟨w6.heap.size, 0, none⟩) xb0l).trans xb0_0
  replace xb0_1 : w8.cell? ⟨w6.heap.size, 1, none⟩ = some (.int .i64 a0.series) := (hb8.cell (p := ⟨w6.heap.size, 1, none⟩) xb0l).trans xb0_1
  replace xb0_2 : w8.cell? ⟨w6.heap.size, 2, none⟩ = some (.int .i64 a0.made) := (hb8.cell (p := ⟨w6.heap.size, 2, none⟩) xb0l).trans xb0_2
  replace xb0_3 : w8.cell? ⟨w6.heap.size, 3, none⟩ = some (.slice (some ⟨g_x0, 0, none⟩) a0.evs.length a0.evs.length) := (hb8.cell (p := ⟨w6.heap.size, 3, none⟩) xb0l).trans xb0_3
  replace xb0l := Nat.lt_of_lt_of_le xb0l hb8.size
  replace o_w := o_w.below (hb8.mono ble_w)
  replace ble_w := Nat.le_trans ble_w hb8.size
  replace o_x0 := o_x0.below hb8 o_x0.lt
  replace o_x1 := o_x1.below hb8 o_x1.lt
  have bs_g : ∃ n, n = w7.heap.size := ⟨_, rfl⟩
  obtain ⟨Bg, hBg⟩ := bs_g
  rw [← hBg] at o_g
  have gg_g : w7.heap.size ≤ Bg := Nat.le_of_eq hBg.symm
  have HBg := Lib.hid hBg
  clear hBg
  have gg_x0 : g_x0 < Bg := by omega
  have gg_x1 : g_x1 < Bg := by omega
  have gg_bx0 : w.heap.size < Bg := by omega
  have gg_xb0 : w6.heap.size < Bg := by omega
  have gw_g : w.heap.size ≤ Bg := by have := h8.size; omega
  go_wp2_with fail
  refine (eqIntS_any _ _ _ _ (endsL a0.id a0.series a0.made a0.evs a1) _ (o_g.ls encInt_len) (o_w.more ble_w) (by have := endsL_le a0.id a0.series a0.made a0.evs a1; omega)).mono ?_
  rintro e w9 ⟨rfl, hb9⟩
  have h9 := blw h8 hb9
  have z9 := hb9.size
  replace bx0_0 : w9.cell? ⟨w.heap.size, 0, none⟩ = some (.int .i64 a0.id) := (hb9.cell (p := ⟨w.heap.size, 0, none⟩) bl0).trans bx0_0
  replace bx0_1 : w9.cell? ⟨w.heap.size, 1, none⟩ = some (.int .i64 a0.series) := (hb9.cell (p := ⟨w.heap.size, 1, none⟩) bl0).trans bx0_1
  replace bx0_2 : w9.cell? ⟨w.heap.size, 2, none⟩ = some (.int .i64 a0.made) := (hb9.cell (p := ⟨w.heap.size, 2, none⟩) bl0).trans bx0_2
  replace bx0_3 : w9.cell? ⟨w.heap.size, 3, none⟩ = some (.slice a0.A a0.evs.length a0.c) := (hb9.cell (p := ⟨w.heap.size, 3, none⟩) bl0).trans bx0_3
  replace bl0 := Nat.lt_of_lt_of_le bl0 hb9.size
  replace xb0_0 : w9.cell? ⟨w6.heap.size, 0, none⟩ = some (.int .i64 a0.id) := (hb9.cell (p := ⟨w6.heap.size, 0, none⟩) xb0l).trans xb0_0
  replace xb0_1 : w9.cell? ⟨w6.heap.size, 1, none⟩ = some (.int .i64 a0.series) := (hb9.cell (p := ⟨w6.heap.size, 1, none⟩) xb0l).trans xb0_1
  replace xb0_2 : w9.cell? ⟨w6.heap.size, 2, none⟩ = some (.int .i64 a0.made) := (hb9.cell (p := ⟨w6.heap.size, 2, none⟩) xb0l).trans xb0_2
  replace xb0_3 : w9.cell? ⟨w6.heap.size, 3, none⟩ = some (.slice (some ⟨g_x0, 0, none⟩) a0.evs.length a0.evs.length) := (hb9.cell (p := ⟨w6.heap.size, 3, none⟩) xb0l).trans xb0_3
  replace xb0l := Nat.lt_of_lt_of_le xb0l hb9.size
  replace o_w := o_w.below (hb9.mono ble_w)
  replace ble_w := Nat.le_trans ble_w hb9.size
  replace o_x0 := o_x0.below hb9 o_x0.lt
  replace o_x1 := o_x1.below hb9 o_x1.lt
  replace o_g := o_g.on hb9
  go_wp2_with fail
  have hk0 : Hid (∀ W, Below w9.heap.size w9 W → W.cell? ⟨w6.heap.size, 0, none⟩ = some (.int .i64 a0.id) ∧ W.cell? ⟨w6.heap.size, 1, none⟩ = some (.int .i64 a0.series) ∧ W.cell? ⟨w6.heap.size, 2, none⟩ = some (.int .i64 a0.made) ∧ W.cell? ⟨w6.heap.size, 3, none⟩ = some (.slice (some ⟨g_x0, 0, none⟩) a0.evs.length a0.evs.length) ∧ W.cell? ⟨w.heap.size, 0, none⟩ = some (.int .i64 a0.id) ∧ W.cell? ⟨w.heap.size, 1, none⟩ = some (.int .i64 a0.series) ∧ W.cell? ⟨w.heap.size, 2, none⟩ = some (.int .i64 a0.made) ∧ W.cell? ⟨w.heap.size, 3, none⟩ = some (.slice a0.A a0.evs.length a0.c)) := fun W hb => ⟨(hb.cell (p := ⟨_, _, _⟩) xb0l).trans xb0_0, (hb.cell (p := ⟨_, _, _⟩) xb0l).trans xb0_1, (hb.cell (p := ⟨_, _, _⟩) xb0l).trans xb0_2, (hb.cell (p := ⟨_, _, _⟩) xb0l).trans xb0_3, (hb.cell (p := ⟨_, _, _⟩) bl0).trans bx0_0, (hb.cell (p := ⟨_, _, _⟩) bl0).trans bx0_1, (hb.cell (p := ⟨_, _, _⟩) bl0).trans bx0_2, (hb.cell (p := ⟨_, _, _⟩) bl0).trans bx0_3⟩
  have o_d0 : Own w9.drew g_x0 49 encEv 2 a0.evs := o_x0
  go_region_held3 (fun W => W.cell? ⟨w6.heap.size, 0, none⟩ = some (.int .i64 a0.id) ∧ W.cell? ⟨w6.heap.size, 1, none⟩ = some (.int .i64 a0.series) ∧ W.cell? ⟨w6.heap.size, 2, none⟩ = some (.int .i64 a0.made) ∧ W.cell? ⟨w6.heap.size, 3, none⟩ = some (.slice (some ⟨g_x0, 0, none⟩) a0.evs.length a0.evs.length) ∧ W.cell? ⟨w.heap.size, 0, none⟩ = some (.int .i64 a0.id) ∧ W.cell? ⟨w.heap.size, 1, none⟩ = some (.int .i64 a0.series) ∧ W.cell? ⟨w.heap.size, 2, none⟩ = some (.int .i64 a0.made) ∧ W.cell? ⟨w.heap.size, 3, none⟩ = some (.slice a0.A a0.evs.length a0.c))
    (first | exact hk0.out _ (Below.refl _ w9).drew | exact hk0.out _ ((Below.refl _ w9).drew.trans hb10) | exact hk0.out _ (blw ((Below.refl _ w9).drew.trans hb10) hb11))
    (first | (go_at_call 15; refine (toRecord_any _ _ _ _ _ a0.evs _ ((hl0.below h9.drew).more h9.size) hn0).mono ?_; rintro e w10 ⟨g_t0, gl_t0, rfl, o_t0, hb10⟩) | (go_at_call 17; refine (eqRecord_any _ _ _ _ _ _ _ a0.evs _ ((o_d0.below hb10 o_d0.lt).ls encEv_len) (o_t0.ls encEv_len) (by omega)).mono ?_; rintro e w11 ⟨rfl, hb11⟩))
  have hb1011 : Below w9.heap.size w9 w11 := blw ((Below.refl _ w9).drew.trans hb10) hb11
  clear o_d0 hk0
  have h11 := blw h9 hb1011
  have z11 := hb1011.size
  replace bx0_0 : w11.cell? ⟨w.heap.size, 0, none⟩ = some (.int .i64 a0.id) := (hb1011.cell (p := ⟨w.heap.size, 0, none⟩) bl0).trans bx0_0
  replace bx0_1 : w11.cell? ⟨w.heap.size, 1, none⟩ = some (.int .i64 a0.series) := (hb1011.cell (p := ⟨w.heap.size, 1, none⟩) bl0).trans bx0_1
  replace bx0_2 : w11.cell? ⟨w.heap.size, 2, none⟩ = some (.int .i64 a0.made) := (hb1011.cell (p := ⟨w.heap.size, 2, none⟩) bl0).trans bx0_2
  replace bx0_3 : w11.cell? ⟨w.heap.size, 3, none⟩ = some (.slice a0.A a0.evs.length a0.c) := (hb1011.cell (p := ⟨w.heap.size, 3, none⟩) bl0).trans bx0_3
  replace bl0 := Nat.lt_of_lt_of_le bl0 hb1011.size
  replace xb0_0 : w11.cell? ⟨w6.heap.size, 0, none⟩ = some (.int .i64 a0.id) := (hb1011.cell (p := ⟨w6.heap.size, 0, none⟩) xb0l).trans xb0_0
  replace xb0_1 : w11.cell? ⟨w6.heap.size, 1, none⟩ = some (.int .i64 a0.series) := (hb1011.cell (p := ⟨w6.heap.size, 1, none⟩) xb0l).trans xb0_1
  replace xb0_2 : w11.cell? ⟨w6.heap.size, 2, none⟩ = some (.int .i64 a0.made) := (hb1011.cell (p := ⟨w6.heap.size, 2, none⟩) xb0l).trans xb0_2
  replace xb0_3 : w11.cell? ⟨w6.heap.size, 3, none⟩ = some (.slice (some ⟨g_x0, 0, none⟩) a0.evs.length a0.evs.length) := (hb1011.cell (p := ⟨w6.heap.size, 3, none⟩) xb0l).trans xb0_3
  replace xb0l := Nat.lt_of_lt_of_le xb0l hb1011.size
  replace o_w := o_w.below (hb1011.mono ble_w)
  replace ble_w := Nat.le_trans ble_w hb1011.size
  replace o_x0 := o_x0.below hb1011 o_x0.lt
  replace o_x1 := o_x1.below hb1011 o_x1.lt
  replace o_g := o_g.on hb1011
  go_wp2_with fail
  refine (toRuleS_any _ _ a1 _ ((hl1.below h11).more h11.size) hn1).mono ?_
  rintro e w12 ⟨g_t1, gl_t1, rfl, o_t1, hb12⟩
  have h12 := blw h11 hb12
  have z12 := hb12.size
  replace bx0_0 : w12.cell? ⟨w.heap.size, 0, none⟩ = some (.int .i64 a0.id) := (hb12.cell (p := ⟨w.heap.size, 0, none⟩) bl0).trans bx0_0
  replace bx0_1 : w12.cell? ⟨w.heap.size, 1, none⟩ = some (.int .i64 a0.series) := (hb12.cell (p := ⟨w.heap.size, 1, none⟩) bl0).trans bx0_1
  replace bx0_2 : w12.cell? ⟨w.heap.size, 2, none⟩ = some (.int .i64 a0.made) := (hb12.cell (p := ⟨w.heap.size, 2, none⟩) bl0).trans bx0_2
  replace bx0_3 : w12.cell? ⟨w.heap.size, 3, none⟩ = some (.slice a0.A a0.evs.length a0.c) := (hb12.cell (p := ⟨w.heap.size, 3, none⟩) bl0).trans bx0_3
  replace bl0 := Nat.lt_of_lt_of_le bl0 hb12.size
  replace xb0_0 : w12.cell? ⟨w6.heap.size, 0, none⟩ = some (.int .i64 a0.id) := (hb12.cell (p := ⟨w6.heap.size, 0, none⟩) xb0l).trans xb0_0
  replace xb0_1 : w12.cell? ⟨w6.heap.size, 1, none⟩ = some (.int .i64 a0.series) := (hb12.cell (p := ⟨w6.heap.size, 1, none⟩) xb0l).trans xb0_1
  replace xb0_2 : w12.cell? ⟨w6.heap.size, 2, none⟩ = some (.int .i64 a0.made) := (hb12.cell (p := ⟨w6.heap.size, 2, none⟩) xb0l).trans xb0_2
  replace xb0_3 : w12.cell? ⟨w6.heap.size, 3, none⟩ = some (.slice (some ⟨g_x0, 0, none⟩) a0.evs.length a0.evs.length) := (hb12.cell (p := ⟨w6.heap.size, 3, none⟩) xb0l).trans xb0_3
  replace xb0l := Nat.lt_of_lt_of_le xb0l hb12.size
  replace o_w := o_w.below (hb12.mono ble_w)
  replace ble_w := Nat.le_trans ble_w hb12.size
  replace o_x0 := o_x0.below hb12 o_x0.lt
  replace o_x1 := o_x1.below hb12 o_x1.lt
  replace o_g := o_g.on hb12
  have y_t1 := o_t1.lt
  go_wp2_with fail
  refine (eqRuleS_any _ _ _ _ a1 _ (o_x1.ls encRule_len) (o_t1.ls encRule_len) (by omega)).mono ?_
  rintro e w13 ⟨rfl, hb13⟩
  have h13 := blw h12 hb13
  have z13 := hb13.size
  replace bx0_0 : w13.cell? ⟨w.heap.size, 0, none⟩ = some (.int .i64 a0.id) := (hb13.cell (p := ⟨w.heap.size, 0, none⟩) bl0).trans bx0_0
  replace bx0_1 : w13.cell? ⟨w.heap.size, 1, none⟩ = some (.int .i64 a0.series) := (hb13.cell (p := ⟨w.heap.size, 1, none⟩) bl0).trans bx0_1
  replace bx0_2 : w13.cell? ⟨w.heap.size, 2, none⟩ = some (.int .i64 a0.made) := (hb13.cell (p := ⟨w.heap.size, 2, none⟩) bl0).trans bx0_2
  replace bx0_3 : w13.cell? ⟨w.heap.size, 3, none⟩ = some (.slice a0.A a0.evs.length a0.c) := (hb13.cell (p := ⟨w.heap.size, 3, none⟩) bl0).trans bx0_3
  replace bl0 := Nat.lt_of_lt_of_le bl0 hb13.size
  replace xb0_0 : w13.cell? ⟨w6.heap.size, 0, none⟩ = some (.int .i64 a0.id) := (hb13.cell (p := ⟨w6.heap.size, 0, none⟩) xb0l).trans xb0_0
  replace xb0_1 : w13.cell? ⟨w6.heap.size, 1, none⟩ = some (.int .i64 a0.series) := (hb13.cell (p := ⟨w6.heap.size, 1, none⟩) xb0l).trans xb0_1
  replace xb0_2 : w13.cell? ⟨w6.heap.size, 2, none⟩ = some (.int .i64 a0.made) := (hb13.cell (p := ⟨w6.heap.size, 2, none⟩) xb0l).trans xb0_2
  replace xb0_3 : w13.cell? ⟨w6.heap.size, 3, none⟩ = some (.slice (some ⟨g_x0, 0, none⟩) a0.evs.length a0.evs.length) := (hb13.cell (p := ⟨w6.heap.size, 3, none⟩) xb0l).trans xb0_3
  replace xb0l := Nat.lt_of_lt_of_le xb0l hb13.size
  replace o_w := o_w.below (hb13.mono ble_w)
  replace ble_w := Nat.le_trans ble_w hb13.size
  replace o_x0 := o_x0.below hb13 o_x0.lt
  replace o_x1 := o_x1.below hb13 o_x1.lt
  replace o_g := o_g.on hb13
  replace o_t1 := o_t1.below hb13 o_t1.lt
  go_wp2_with fail
  refine (markRecord_any _ _ _ _ _ a0.evs.length _ _ o_x0.row1 hn0 (by omega) (by omega)).mono ?_
  rintro e w14 ⟨rfl, hw14, _⟩
  have hS14 : ∀ b, blkOf (some ⟨g_x0, 0, none⟩) b → g_x0 ≤ b := fun b hb => by obtain ⟨q, hq⟩ := hb; simp at hq <;> omega
  have h14 := h13.trans (hw14.below h13.size (fun b hb => Nat.le_trans (by have := h0.size; omega) (hS14 b hb)))
  have z14 := hw14.size
  replace bx0_0 : w14.cell? ⟨w.heap.size, 0, none⟩ = some (.int .i64 a0.id) := (hw14.cell (k := w.heap.size) (o := 0) bl0 (fun hS => by obtain ⟨q, hq⟩ := hS; simp at hq <;> omega)).trans bx0_0
  replace bx0_1 : w14.cell? ⟨w.heap.size, 1, none⟩ = some (.int .i64 a0.series) := (hw14.cell (k := w.heap.size) (o := 1) bl0 (fun hS => by obtain ⟨q, hq⟩ := hS; simp at hq <;> omega)).trans bx0_1
  replace bx0_2 : w14.cell? ⟨w.heap.size, 2, none⟩ = some (.int .i64 a0.made) := (hw14.cell (k := w.heap.size) (o := 2) bl0 (fun hS => by obtain ⟨q, hq⟩ := hS; simp at hq <;> omega)).trans bx0_2
  replace bx0_3 : w14.cell? ⟨w.heap.size, 3, none⟩ = some (.slice a0.A a0.evs.length a0.c) := (hw14.cell (k := w.heap.size) (o := 3) bl0 (fun hS => by obtain ⟨q, hq⟩ := hS; simp at hq <;> omega)).trans bx0_3
  replace bl0 := Nat.lt_of_lt_of_le bl0 hw14.size
  replace xb0_0 : w14.cell? ⟨w6.heap.size, 0, none⟩ = some (.int .i64 a0.id) := (hw14.cell (k := w6.heap.size) (o := 0) xb0l (fun hS => by obtain ⟨q, hq⟩ := hS; simp at hq <;> omega)).trans xb0_0
  replace xb0_1 : w14.cell? ⟨w6.heap.size, 1, none⟩ = some (.int .i64 a0.series) := (hw14.cell (k := w6.heap.size) (o := 1) xb0l (fun hS => by obtain ⟨q, hq⟩ := hS; simp at hq <;> omega)).trans xb0_1
  replace xb0_2 : w14.cell? ⟨w6.heap.size, 2, none⟩ = some (.int .i64 a0.made) := (hw14.cell (k := w6.heap.size) (o := 2) xb0l (fun hS => by obtain ⟨q, hq⟩ := hS; simp at hq <;> omega)).trans xb0_2
  replace xb0_3 : w14.cell? ⟨w6.heap.size, 3, none⟩ = some (.slice (some ⟨g_x0, 0, none⟩) a0.evs.length a0.evs.length) := (hw14.cell (k := w6.heap.size) (o := 3) xb0l (fun hS => by obtain ⟨q, hq⟩ := hS; simp at hq <;> omega)).trans xb0_3
  replace xb0l := Nat.lt_of_lt_of_le xb0l hw14.size
  replace o_w := o_w.wr hw14 (fun b hb => by have := hS14 b hb; omega) ble_w
  replace ble_w := Nat.le_trans ble_w hw14.size
  replace o_x1 := o_x1.wr hw14 (fun hS => by obtain ⟨q, hq⟩ := hS; simp at hq <;> omega)
  replace o_g := o_g.wr_up hw14 (fun b hb hS => by obtain ⟨q, hq⟩ := hS; simp at hq <;> omega)
  go_wp2_with fail
  refine (markRuleS_any _ _ a1.length _ _ o_x1.row1 hn1 (by omega) (by omega)).mono ?_
  rintro e w15 ⟨rfl, hw15, _⟩
  have hS15 : ∀ b, blkOf (some ⟨g_x1, 0, none⟩) b → g_x1 ≤ b := fun b hb => by obtain ⟨q, hq⟩ := hb; simp at hq <;> omega
  have h15 := h14.trans (hw15.below h14.size (fun b hb => Nat.le_trans (by have := h0.size; omega) (hS15 b hb)))
  have z15 := hw15.size
  replace bx0_0 : w15.cell? ⟨w.heap.size, 0, none⟩ = some (.int .i64 a0.id) := (hw15.cell (k := w.heap.size) (o := 0) bl0 (fun hS => by obtain ⟨q, hq⟩ := hS; simp at hq <;> omega)).trans bx0_0
  replace bx0_1 : w15.cell? ⟨w.heap.size, 1, none⟩ = some (.int .i64 a0.series) := (hw15.cell (k := w.heap.size) (o := 1) bl0 (fun hS => by obtain ⟨q, hq⟩ := hS; simp at hq <;> omega)).trans bx0_1
  replace bx0_2 : w15.cell? ⟨w.heap.size, 2, none⟩ = some (.int .i64 a0.made) := (hw15.cell (k := w.heap.size) (o := 2) bl0 (fun hS => by obtain ⟨q, hq⟩ := hS; simp at hq <;> omega)).trans bx0_2
  replace bx0_3 : w15.cell? ⟨w.heap.size, 3, none⟩ = some (.slice a0.A a0.evs.length a0.c) := (hw15.cell (k := w.heap.size) (o := 3) bl0 (fun hS => by obtain ⟨q, hq⟩ := hS; simp at hq <;> omega)).trans bx0_3
  replace bl0 := Nat.lt_of_lt_of_le bl0 hw15.size
  replace xb0_0 : w15.cell? ⟨w6.heap.size, 0, none⟩ = some (.int .i64 a0.id) := (hw15.cell (k := w6.heap.size) (o := 0) xb0l (fun hS => by obtain ⟨q, hq⟩ := hS; simp at hq <;> omega)).trans xb0_0
  replace xb0_1 : w15.cell? ⟨w6.heap.size, 1, none⟩ = some (.int .i64 a0.series) := (hw15.cell (k := w6.heap.size) (o := 1) xb0l (fun hS => by obtain ⟨q, hq⟩ := hS; simp at hq <;> omega)).trans xb0_1
  replace xb0_2 : w15.cell? ⟨w6.heap.size, 2, none⟩ = some (.int .i64 a0.made) := (hw15.cell (k := w6.heap.size) (o := 2) xb0l (fun hS => by obtain ⟨q, hq⟩ := hS; simp at hq <;> omega)).trans xb0_2
  replace xb0_3 : w15.cell? ⟨w6.heap.size, 3, none⟩ = some (.slice (some ⟨g_x0, 0, none⟩) a0.evs.length a0.evs.length) := (hw15.cell (k := w6.heap.size) (o := 3) xb0l (fun hS => by obtain ⟨q, hq⟩ := hS; simp at hq <;> omega)).trans xb0_3
  replace xb0l := Nat.lt_of_lt_of_le xb0l hw15.size
  replace o_w := o_w.wr hw15 (fun b hb => by have := hS15 b hb; omega) ble_w
  replace ble_w := Nat.le_trans ble_w hw15.size
  replace o_g := o_g.wr_up hw15 (fun b hb hS => by obtain ⟨q, hq⟩ := hS; simp at hq <;> omega)
  go_wp2_with fail
  refine (eqIntS_any _ _ _ _ (endsL a0.id a0.series a0.made a0.evs a1) _ (o_g.ls encInt_len) (o_w.more ble_w) (by have := endsL_le a0.id a0.series a0.made a0.evs a1; omega)).mono ?_
  rintro e w16 ⟨rfl, hb16⟩
  have h16 := blw h15 hb16
  have z16 := hb16.size
  replace bx0_0 : w16.cell? ⟨w.heap.size, 0, none⟩ = some (.int .i64 a0.id) := (hb16.cell (p := ⟨w.heap.size, 0, none⟩) bl0).trans bx0_0
  replace bx0_1 : w16.cell? ⟨w.heap.size, 1, none⟩ = some (.int .i64 a0.series) := (hb16.cell (p := ⟨w.heap.size, 1, none⟩) bl0).trans bx0_1
  replace bx0_2 : w16.cell? ⟨w.heap.size, 2, none⟩ = some (.int .i64 a0.made) := (hb16.cell (p := ⟨w.heap.size, 2, none⟩) bl0).trans bx0_2
  replace bx0_3 : w16.cell? ⟨w.heap.size, 3, none⟩ = some (.slice a0.A a0.evs.length a0.c) := (hb16.cell (p := ⟨w.heap.size, 3, none⟩) bl0).trans bx0_3
  replace bl0 := Nat.lt_of_lt_of_le bl0 hb16.size
  replace xb0_0 : w16.cell? ⟨w6.heap.size, 0, none⟩ = some (.int .i64 a0.id) := (hb16.cell (p := ⟨w6.heap.size, 0, none⟩) xb0l).trans xb0_0
  replace xb0_1 : w16.cell? ⟨w6.heap.size, 1, none⟩ = some (.int .i64 a0.series) := (hb16.cell (p := ⟨w6.heap.size, 1, none⟩) xb0l).trans xb0_1
  replace xb0_2 : w16.cell? ⟨w6.heap.size, 2, none⟩ = some (.int .i64 a0.made) := (hb16.cell (p := ⟨w6.heap.size, 2, none⟩) xb0l).trans xb0_2
  replace xb0_3 : w16.cell? ⟨w6.heap.size, 3, none⟩ = some (.slice (some ⟨g_x0, 0, none⟩) a0.evs.length a0.evs.length) := (hb16.cell (p := ⟨w6.heap.size, 3, none⟩) xb0l).trans xb0_3
  replace xb0l := Nat.lt_of_lt_of_le xb0l hb16.size
  replace o_w := o_w.below (hb16.mono ble_w)
  replace ble_w := Nat.le_trans ble_w hb16.size
  replace o_g := o_g.on hb16
  have hr_g := o_g.row1
  go_wp2_with fail
  refine (markIntS_any _ _ _ _ _ hr_g (by have := endsL_le a0.id a0.series a0.made a0.evs a1; omega) (by omega) (by omega)).mono ?_
  rintro e w17 ⟨rfl, hw17, o_m⟩
  have hS17 : ∀ b, blkOf A_g b → Bg ≤ b := fun b hb => (o_g.block hb).1
  have h17 := h16.trans (hw17.below h16.size (fun b hb => Nat.le_trans gw_g (hS17 b hb)))
  have z17 := hw17.size
  replace bx0_0 : w17.cell? ⟨w.heap.size, 0, none⟩ = some (.int .i64 a0.id) := (hw17.cell (k := w.heap.size) (o := 0) bl0 (fun hS => by have := hS17 _ hS; omega)).trans bx0_0
  replace bx0_1 : w17.cell? ⟨w.heap.size, 1, none⟩ = some (.int .i64 a0.series) := (hw17.cell (k := w.heap.size) (o := 1) bl0 (fun hS => by have := hS17 _ hS; omega)).trans bx0_1
  replace bx0_2 : w17.cell? ⟨w.heap.size, 2, none⟩ = some (.int .i64 a0.made) := (hw17.cell (k := w.heap.size) (o := 2) bl0 (fun hS => by have := hS17 _ hS; omega)).trans bx0_2
  replace bx0_3 : w17.cell? ⟨w.heap.size, 3, none⟩ = some (.slice a0.A a0.evs.length a0.c) := (hw17.cell (k := w.heap.size) (o := 3) bl0 (fun hS => by have := hS17 _ hS; omega)).trans bx0_3
  replace bl0 := Nat.lt_of_lt_of_le bl0 hw17.size
  replace xb0_0 : w17.cell? ⟨w6.heap.size, 0, none⟩ = some (.int .i64 a0.id) := (hw17.cell (k := w6.heap.size) (o := 0) xb0l (fun hS => by have := hS17 _ hS; omega)).trans xb0_0
  replace xb0_1 : w17.cell? ⟨w6.heap.size, 1, none⟩ = some (.int .i64 a0.series) := (hw17.cell (k := w6.heap.size) (o := 1) xb0l (fun hS => by have := hS17 _ hS; omega)).trans xb0_1
  replace xb0_2 : w17.cell? ⟨w6.heap.size, 2, none⟩ = some (.int .i64 a0.made) := (hw17.cell (k := w6.heap.size) (o := 2) xb0l (fun hS => by have := hS17 _ hS; omega)).trans xb0_2
  replace xb0_3 : w17.cell? ⟨w6.heap.size, 3, none⟩ = some (.slice (some ⟨g_x0, 0, none⟩) a0.evs.length a0.evs.length) := (hw17.cell (k := w6.heap.size) (o := 3) xb0l (fun hS => by have := hS17 _ hS; omega)).trans xb0_3
  replace xb0l := Nat.lt_of_lt_of_le xb0l hw17.size
  replace o_w := o_w.wr hw17 (fun b hb => by have := hS17 b hb; omega) ble_w
  replace ble_w := Nat.le_trans ble_w hw17.size
  go_wp2_with fail
  refine (heldIntS_any _ _ _ _ _ o_m (by have := endsL_le a0.id a0.series a0.made a0.evs a1; omega) (by omega) (by omega)).mono ?_
  rintro e _ ⟨rfl, rfl⟩
  go_wp2_with fail
  refine (toRecord_any _ _ _ _ _ a0.evs _ ((hl0.below h17).more h17.size) hn0).mono ?_
  rintro e w18 ⟨g_u0, gl_u0, rfl, o_u0, hb18⟩
  have h18 := blw h17 hb18
  have z18 := hb18.size
  replace bx0_0 : w18.cell? ⟨w.heap.size, 0, none⟩ = some (.int .i64 a0.id) := (hb18.cell (p := ⟨w.heap.size, 0, none⟩) bl0).trans bx0_0
  replace bx0_1 : w18.cell? ⟨w.heap.size, 1, none⟩ = some (.int .i64 a0.series) := (hb18.cell (p := ⟨w.heap.size, 1, none⟩) bl0).trans bx0_1
  replace bx0_2 : w18.cell? ⟨w.heap.size, 2, none⟩ = some (.int .i64 a0.made) := (hb18.cell (p := ⟨w.heap.size, 2, none⟩) bl0).trans bx0_2
  replace bx0_3 : w18.cell? ⟨w.heap.size, 3, none⟩ = some (.slice a0.A a0.evs.length a0.c) := (hb18.cell (p := ⟨w.heap.size, 3, none⟩) bl0).trans bx0_3
  replace bl0 := Nat.lt_of_lt_of_le bl0 hb18.size
  replace xb0_0 : w18.cell? ⟨w6.heap.size, 0, none⟩ = some (.int .i64 a0.id) := (hb18.cell (p := ⟨w6.heap.size, 0, none⟩) xb0l).trans xb0_0
  replace xb0_1 : w18.cell? ⟨w6.heap.size, 1, none⟩ = some (.int .i64 a0.series) := (hb18.cell (p := ⟨w6.heap.size, 1, none⟩) xb0l).trans xb0_1
  replace xb0_2 : w18.cell? ⟨w6.heap.size, 2, none⟩ = some (.int .i64 a0.made) := (hb18.cell (p := ⟨w6.heap.size, 2, none⟩) xb0l).trans xb0_2
  replace xb0_3 : w18.cell? ⟨w6.heap.size, 3, none⟩ = some (.slice (some ⟨g_x0, 0, none⟩) a0.evs.length a0.evs.length) := (hb18.cell (p := ⟨w6.heap.size, 3, none⟩) xb0l).trans xb0_3
  replace xb0l := Nat.lt_of_lt_of_le xb0l hb18.size
  replace o_w := o_w.below (hb18.mono ble_w)
  replace ble_w := Nat.le_trans ble_w hb18.size
  replace o_m := (o_m.below hb18).more hb18.size
  have y_u0 := o_u0.lt
  go_wp2_with fail
  refine (toRuleS_any _ _ a1 _ ((hl1.below h18).more h18.size) hn1).mono ?_
  rintro e w19 ⟨g_u1, gl_u1, rfl, o_u1, hb19⟩
  have h19 := blw h18 hb19
  have z19 := hb19.size
  replace bx0_0 : w19.cell? ⟨w.heap.size, 0, none⟩ = some (.int .i64 a0.id) := (hb19.cell (p := ⟨w.heap.size, 0, none⟩) bl0).trans bx0_0
  replace bx0_1 : w19.cell? ⟨w.heap.size, 1, none⟩ = some (.int .i64 a0.series) := (hb19.cell (p := ⟨w.heap.size, 1, none⟩) bl0).trans bx0_1
  replace bx0_2 : w19.cell? ⟨w.heap.size, 2, none⟩ = some (.int .i64 a0.made) := (hb19.cell (p := ⟨w.heap.size, 2, none⟩) bl0).trans bx0_2
  replace bx0_3 : w19.cell? ⟨w.heap.size, 3, none⟩ = some (.slice a0.A a0.evs.length a0.c) := (hb19.cell (p := ⟨w.heap.size, 3, none⟩) bl0).trans bx0_3
  replace bl0 := Nat.lt_of_lt_of_le bl0 hb19.size
  replace xb0_0 : w19.cell? ⟨w6.heap.size, 0, none⟩ = some (.int .i64 a0.id) := (hb19.cell (p := ⟨w6.heap.size, 0, none⟩) xb0l).trans xb0_0
  replace xb0_1 : w19.cell? ⟨w6.heap.size, 1, none⟩ = some (.int .i64 a0.series) := (hb19.cell (p := ⟨w6.heap.size, 1, none⟩) xb0l).trans xb0_1
  replace xb0_2 : w19.cell? ⟨w6.heap.size, 2, none⟩ = some (.int .i64 a0.made) := (hb19.cell (p := ⟨w6.heap.size, 2, none⟩) xb0l).trans xb0_2
  replace xb0_3 : w19.cell? ⟨w6.heap.size, 3, none⟩ = some (.slice (some ⟨g_x0, 0, none⟩) a0.evs.length a0.evs.length) := (hb19.cell (p := ⟨w6.heap.size, 3, none⟩) xb0l).trans xb0_3
  replace xb0l := Nat.lt_of_lt_of_le xb0l hb19.size
  replace o_w := o_w.below (hb19.mono ble_w)
  replace ble_w := Nat.le_trans ble_w hb19.size
  replace o_m := (o_m.below hb19).more hb19.size
  replace o_u0 := o_u0.below hb19 o_u0.lt
  have y_u1 := o_u1.lt
  go_wp2_with fail
  refine (c_impl_EndsOf _ _ _ _ _ a0.evs _ _ a1 _ (o_u0.ls encEv_len) hn0 (o_u1.ls encRule_len) hn1).mono ?_
  rintro e w20 ⟨A_h, C_h, rfl, o_h, hb20⟩
  have h20 := blw h19 hb20
  have z20 := hb20.size
  replace bx0_0 : w20.cell? ⟨w.heap.size, 0, none⟩ = some (.int .i64 a0.id) := (hb20.cell (p := ⟨w.heap.size, 0, none⟩) bl0).trans bx0_0
  replace bx0_1 : w20.cell? ⟨w.heap.size, 1, none⟩ = some (.int .i64 a0.series) := (hb20.cell (p := ⟨w.heap.size, 1, none⟩) bl0).trans bx0_1
  replace bx0_2 : w20.cell? ⟨w.heap.size, 2, none⟩ = some (.int .i64 a0.made) := (hb20.cell (p := ⟨w.heap.size, 2, none⟩) bl0).trans bx0_2
  replace bx0_3 : w20.cell? ⟨w.heap.size, 3, none⟩ = some (.slice a0.A a0.evs.length a0.c) := (hb20.cell (p := ⟨w.heap.size, 3, none⟩) bl0).trans bx0_3
  replace bl0 := Nat.lt_of_lt_of_le bl0 hb20.size
  replace xb0_0 : w20.cell? ⟨w6.heap.size, 0, none⟩ = some (.int .i64 a0.id) := (hb20.cell (p := ⟨w6.heap.size, 0, none⟩) xb0l).trans xb0_0
  replace xb0_1 : w20.cell? ⟨w6.heap.size, 1, none⟩ = some (.int .i64 a0.series) := (hb20.cell (p := ⟨w6.heap.size, 1, none⟩) xb0l).trans xb0_1
  replace xb0_2 : w20.cell? ⟨w6.heap.size, 2, none⟩ = some (.int .i64 a0.made) := (hb20.cell (p := ⟨w6.heap.size, 2, none⟩) xb0l).trans xb0_2
  replace xb0_3 : w20.cell? ⟨w6.heap.size, 3, none⟩ = some (.slice (some ⟨g_x0, 0, none⟩) a0.evs.length a0.evs.length) := (hb20.cell (p := ⟨w6.heap.size, 3, none⟩) xb0l).trans xb0_3
  replace xb0l := Nat.lt_of_lt_of_le xb0l hb20.size
  replace o_w := o_w.below (hb20.mono ble_w)
  replace ble_w := Nat.le_trans ble_w hb20.size
  replace o_m := (o_m.below hb20).more hb20.size
  replace o_u0 := o_u0.below hb20 o_u0.lt
  replace o_u1 := o_u1.below hb20 o_u1.lt
  go_wp2_with fail
  refine (eqIntS_any _ _ _ _ (endsL a0.id a0.series a0.made a0.evs a1) _ (o_h.ls encInt_len) (o_w.more ble_w) (by have := endsL_le a0.id a0.series a0.made a0.evs a1; omega)).mono ?_
  rintro e w21 ⟨rfl, hb21⟩
  have h21 := blw h20 hb21
  have z21 := hb21.size
  replace bx0_0 : w21.cell? ⟨w.heap.size, 0, none⟩ = some (.int .i64 a0.id) := (hb21.cell (p := ⟨w.heap.size, 0, none⟩) bl0).trans bx0_0
  replace bx0_1 : w21.cell? ⟨w.heap.size, 1, none⟩ = some (.int .i64 a0.series) := (hb21.cell (p := ⟨w.heap.size, 1, none⟩) bl0).trans bx0_1
  replace bx0_2 : w21.cell? ⟨w.heap.size, 2, none⟩ = some (.int .i64 a0.made) := (hb21.cell (p := ⟨w.heap.size, 2, none⟩) bl0).trans bx0_2
  replace bx0_3 : w21.cell? ⟨w.heap.size, 3, none⟩ = some (.slice a0.A a0.evs.length a0.c) := (hb21.cell (p := ⟨w.heap.size, 3, none⟩) bl0).trans bx0_3
  replace bl0 := Nat.lt_of_lt_of_le bl0 hb21.size
  replace xb0_0 : w21.cell? ⟨w6.heap.size, 0, none⟩ = some (.int .i64 a0.id) := (hb21.cell (p := ⟨w6.heap.size, 0, none⟩) xb0l).trans xb0_0
  replace xb0_1 : w21.cell? ⟨w6.heap.size, 1, none⟩ = some (.int .i64 a0.series) := (hb21.cell (p := ⟨w6.heap.size, 1, none⟩) xb0l).trans xb0_1
  replace xb0_2 : w21.cell? ⟨w6.heap.size, 2, none⟩ = some (.int .i64 a0.made) := (hb21.cell (p := ⟨w6.heap.size, 2, none⟩) xb0l).trans xb0_2
  replace xb0_3 : w21.cell? ⟨w6.heap.size, 3, none⟩ = some (.slice (some ⟨g_x0, 0, none⟩) a0.evs.length a0.evs.length) := (hb21.cell (p := ⟨w6.heap.size, 3, none⟩) xb0l).trans xb0_3
  replace xb0l := Nat.lt_of_lt_of_le xb0l hb21.size
  replace o_w := o_w.below (hb21.mono ble_w)
  replace ble_w := Nat.le_trans ble_w hb21.size
  replace o_m := (o_m.below hb21).more hb21.size
  replace o_h := o_h.on hb21
  go_wp2_with fail
  refine (heldIntS_any _ _ _ _ _ o_m (by have := endsL_le a0.id a0.series a0.made a0.evs a1; omega) (by omega) (by omega)).mono ?_
  rintro e _ ⟨rfl, rfl⟩
  go_wp2_with fail
  go_ret
  exact ⟨rfl, h21⟩

end Go.Proofs.Ytjbklopkginegaa
