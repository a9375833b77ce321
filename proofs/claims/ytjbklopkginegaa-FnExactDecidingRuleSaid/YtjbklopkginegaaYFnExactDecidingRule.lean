/- The law of DecidingRule, walked. -/
import Derived.Test.YtjbklopkginegaaW6
import Derived.Test.YtjbklopkginegaaHRule
import Derived.Deep.RegionHeld3
namespace Go.Proofs.Ytjbklopkginegaa
set_option linter.unusedVariables false
set_option linter.unusedSimpArgs false
open Go.RowKit
attribute [local go_sem] Aft.cell

set_option maxHeartbeats 4000000 in
theorem walk_FnExactDecidingRule (a0 : Rec) (A1 : Option Addr) (c1 : Nat) (a1 : List RuleD) (w : World) (ok0 : okRec w a0) (ok1 : okSl w encRule 4 okRule A1 a1) :
    Calls Try.prog 9 #[.agg #[.int .i64 a0.id, .int .i64 a0.series, .int .i64 a0.made, .slice a0.A a0.evs.length a0.c], .slice A1 a1.length c1] w fun e w' => e = .returned (.bool true) ∧ Below w.heap.size w w' := by
  obtain ⟨hrg0a, hrg0b, hrg0c, hl0, hok0, hmx0⟩ := ok0
  obtain ⟨hl1, hok1, hmx1⟩ := ok1
  go_enter Try.func9, Try.ntmps9
  go_wp2_with fail
  have h0 : Below w.heap.size w (w.alloc (.cells #[.int .i64 a0.id, .int .i64 a0.series, .int .i64 a0.made, .slice a0.A a0.evs.length a0.c] 24)) := (blw_alloc (Below.refl w.heap.size w) _)
  have bx0_0 : (w.alloc (.cells #[.int .i64 a0.id, .int .i64 a0.series, .int .i64 a0.made, .slice a0.A a0.evs.length a0.c] 24)).cell? ⟨w.heap.size, 0, none⟩ = some (.int .i64 a0.id) := by simp [World.cell?_alloc_lt]
  have bx0_1 : (w.alloc (.cells #[.int .i64 a0.id, .int .i64 a0.series, .int .i64 a0.made, .slice a0.A a0.evs.length a0.c] 24)).cell? ⟨w.heap.size, 1, none⟩ = some (.int .i64 a0.series) := by simp [World.cell?_alloc_lt]
  have bx0_2 : (w.alloc (.cells #[.int .i64 a0.id, .int .i64 a0.series, .int .i64 a0.made, .slice a0.A a0.evs.length a0.c] 24)).cell? ⟨w.heap.size, 2, none⟩ = some (.int .i64 a0.made) := by simp [World.cell?_alloc_lt]
  have bx0_3 : (w.alloc (.cells #[.int .i64 a0.id, .int .i64 a0.series, .int .i64 a0.made, .slice a0.A a0.evs.length a0.c] 24)).cell? ⟨w.heap.size, 3, none⟩ = some (.slice a0.A a0.evs.length a0.c) := by simp [World.cell?_alloc_lt]
  have bl0 : w.heap.size < (w.alloc (.cells #[.int .i64 a0.id, .int .i64 a0.series, .int .i64 a0.made, .slice a0.A a0.evs.length a0.c] 24)).heap.size := by simp; try omega
  generalize (w.alloc (.cells #[.int .i64 a0.id, .int .i64 a0.series, .int .i64 a0.made, .slice a0.A a0.evs.length a0.c] 24)) = W0 at *
  go_wp2_with fail
  refine (szRecord_sz _ _ _ _ _ _ _ _ hmx0 (by omega) (by omega)).mono ?_
  rintro e w1 ⟨r1, rfl, hra1, hrb1, hrp1, hb1⟩
  have h1 := blw h0 hb1
  have z1 := hb1.size
  replace bx0_0 : w1.cell? ⟨w.heap.size, 0, none⟩ = some (.int .i64 a0.id) := (hb1.cell (p := ⟨w.heap.size, 0, none⟩) bl0).trans bx0_0
  replace bx0_1 : w1.cell? ⟨w.heap.size, 1, none⟩ = some (.int .i64 a0.series) := (hb1.cell (p := ⟨w.heap.size, 1, none⟩) bl0).trans bx0_1
  replace bx0_2 : w1.cell? ⟨w.heap.size, 2, none⟩ = some (.int .i64 a0.made) := (hb1.cell (p := ⟨w.heap.size, 2, none⟩) bl0).trans bx0_2
  replace bx0_3 : w1.cell? ⟨w.heap.size, 3, none⟩ = some (.slice a0.A a0.evs.length a0.c) := (hb1.cell (p := ⟨w.heap.size, 3, none⟩) bl0).trans bx0_3
  replace bl0 := Nat.lt_of_lt_of_le bl0 hb1.size
  by_cases hneg1 : r1 < 0
  · clear hrp1
    go_wp2_with fail
    go_ret
    exact ⟨rfl, h1⟩
  have hn0 := hrp1 (by omega)
  clear hrp1
  have hnn1 : ¬ r1 < 0 := hneg1
  go_wp2_with fail
  refine (szRuleS_sz _ _ _ _ _ hmx1 (by omega) (by omega)).mono ?_
  rintro e w2 ⟨r2, rfl, hra2, hrb2, hrp2, hb2⟩
  have h2 := blw h1 hb2
  have z2 := hb2.size
  replace bx0_0 : w2.cell? ⟨w.heap.size, 0, none⟩ = some (.int .i64 a0.id) := (hb2.cell (p := ⟨w.heap.size, 0, none⟩) bl0).trans bx0_0
  replace bx0_1 : w2.cell? ⟨w.heap.size, 1, none⟩ = some (.int .i64 a0.series) := (hb2.cell (p := ⟨w.heap.size, 1, none⟩) bl0).trans bx0_1
  replace bx0_2 : w2.cell? ⟨w.heap.size, 2, none⟩ = some (.int .i64 a0.made) := (hb2.cell (p := ⟨w.heap.size, 2, none⟩) bl0).trans bx0_2
  replace bx0_3 : w2.cell? ⟨w.heap.size, 3, none⟩ = some (.slice a0.A a0.evs.length a0.c) := (hb2.cell (p := ⟨w.heap.size, 3, none⟩) bl0).trans bx0_3
  replace bl0 := Nat.lt_of_lt_of_le bl0 hb2.size
  by_cases hneg2 : r2 < 0
  · clear hrp2
    go_wp2_with fail
    go_ret
    exact ⟨rfl, h2⟩
  have hn1 := hrp2 (by omega)
  clear hrp2
  have hnn2 : ¬ r2 < 0 := hneg2
  go_wp2_with fail
  refine (toRecord_any _ _ _ _ _ a0.evs _ ((hl0.below h2).more h2.size) hn0).mono ?_
  rintro e w3 ⟨g_s0, gl_s0, rfl, o_s0, hb3⟩
  have h3 := blw h2 hb3
  have z3 := hb3.size
  replace bx0_0 : w3.cell? ⟨w.heap.size, 0, none⟩ = some (.int .i64 a0.id) := (hb3.cell (p := ⟨w.heap.size, 0, none⟩) bl0).trans bx0_0
  replace bx0_1 : w3.cell? ⟨w.heap.size, 1, none⟩ = some (.int .i64 a0.series) := (hb3.cell (p := ⟨w.heap.size, 1, none⟩) bl0).trans bx0_1
  replace bx0_2 : w3.cell? ⟨w.heap.size, 2, none⟩ = some (.int .i64 a0.made) := (hb3.cell (p := ⟨w.heap.size, 2, none⟩) bl0).trans bx0_2
  replace bx0_3 : w3.cell? ⟨w.heap.size, 3, none⟩ = some (.slice a0.A a0.evs.length a0.c) := (hb3.cell (p := ⟨w.heap.size, 3, none⟩) bl0).trans bx0_3
  replace bl0 := Nat.lt_of_lt_of_le bl0 hb3.size
  have y_s0 := o_s0.lt
  go_wp2_with fail
  refine (toRuleS_any _ _ a1 _ ((hl1.below h3).more h3.size) hn1).mono ?_
  rintro e w4 ⟨g_s1, gl_s1, rfl, o_s1, hb4⟩
  have h4 := blw h3 hb4
  have z4 := hb4.size
  replace bx0_0 : w4.cell? ⟨w.heap.size, 0, none⟩ = some (.int .i64 a0.id) := (hb4.cell (p := ⟨w.heap.size, 0, none⟩) bl0).trans bx0_0
  replace bx0_1 : w4.cell? ⟨w.heap.size, 1, none⟩ = some (.int .i64 a0.series) := (hb4.cell (p := ⟨w.heap.size, 1, none⟩) bl0).trans bx0_1
  replace bx0_2 : w4.cell? ⟨w.heap.size, 2, none⟩ = some (.int .i64 a0.made) := (hb4.cell (p := ⟨w.heap.size, 2, none⟩) bl0).trans bx0_2
  replace bx0_3 : w4.cell? ⟨w.heap.size, 3, none⟩ = some (.slice a0.A a0.evs.length a0.c) := (hb4.cell (p := ⟨w.heap.size, 3, none⟩) bl0).trans bx0_3
  replace bl0 := Nat.lt_of_lt_of_le bl0 hb4.size
  replace o_s0 := o_s0.below hb4 o_s0.lt
  have y_s1 := o_s1.lt
  go_wp2_with fail
  refine (c_spec_DecidingRule _ _ _ _ _ a0.evs _ _ a1 _ (o_s0.ls encEv_len) hn0 (o_s1.ls encRule_len) hn1).mono ?_
  rintro e w5 ⟨rfl, hb5⟩
  have h5 := blw h4 hb5
  have z5 := hb5.size
  replace bx0_0 : w5.cell? ⟨w.heap.size, 0, none⟩ = some (.int .i64 a0.id) := (hb5.cell (p := ⟨w.heap.size, 0, none⟩) bl0).trans bx0_0
  replace bx0_1 : w5.cell? ⟨w.heap.size, 1, none⟩ = some (.int .i64 a0.series) := (hb5.cell (p := ⟨w.heap.size, 1, none⟩) bl0).trans bx0_1
  replace bx0_2 : w5.cell? ⟨w.heap.size, 2, none⟩ = some (.int .i64 a0.made) := (hb5.cell (p := ⟨w.heap.size, 2, none⟩) bl0).trans bx0_2
  replace bx0_3 : w5.cell? ⟨w.heap.size, 3, none⟩ = some (.slice a0.A a0.evs.length a0.c) := (hb5.cell (p := ⟨w.heap.size, 3, none⟩) bl0).trans bx0_3
  replace bl0 := Nat.lt_of_lt_of_le bl0 hb5.size
  replace o_s0 := o_s0.below hb5 o_s0.lt
  replace o_s1 := o_s1.below hb5 o_s1.lt
  go_wp2_with fail
  have hbA1 : Below w5.heap.size w5 (w5.alloc (.cells #[.int .i64 (decRF a0.id a0.series a0.made a0.evs a1).s, .int .i64 (decRF a0.id a0.series a0.made a0.evs a1).e, .int .i64 (decRF a0.id a0.series a0.made a0.evs a1).d, .int .i64 (decRF a0.id a0.series a0.made a0.evs a1).a] 62)) := (Below.refl _ _).alloc (Nat.le_refl _) _
  have rb_w_0 : (w5.alloc (.cells #[.int .i64 (decRF a0.id a0.series a0.made a0.evs a1).s, .int .i64 (decRF a0.id a0.series a0.made a0.evs a1).e, .int .i64 (decRF a0.id a0.series a0.made a0.evs a1).d, .int .i64 (decRF a0.id a0.series a0.made a0.evs a1).a] 62)).cell? ⟨w5.heap.size, 0, none⟩ = some (.int .i64 (decRF a0.id a0.series a0.made a0.evs a1).s) := by simp
  have rb_w_1 : (w5.alloc (.cells #[.int .i64 (decRF a0.id a0.series a0.made a0.evs a1).s, .int .i64 (decRF a0.id a0.series a0.made a0.evs a1).e, .int .i64 (decRF a0.id a0.series a0.made a0.evs a1).d, .int .i64 (decRF a0.id a0.series a0.made a0.evs a1).a] 62)).cell? ⟨w5.heap.size, 1, none⟩ = some (.int .i64 (decRF a0.id a0.series a0.made a0.evs a1).e) := by simp
  have rb_w_2 : (w5.alloc (.cells #[.int .i64 (decRF a0.id a0.series a0.made a0.evs a1).s, .int .i64 (decRF a0.id a0.series a0.made a0.evs a1).e, .int .i64 (decRF a0.id a0.series a0.made a0.evs a1).d, .int .i64 (decRF a0.id a0.series a0.made a0.evs a1).a] 62)).cell? ⟨w5.heap.size, 2, none⟩ = some (.int .i64 (decRF a0.id a0.series a0.made a0.evs a1).d) := by simp
  have rb_w_3 : (w5.alloc (.cells #[.int .i64 (decRF a0.id a0.series a0.made a0.evs a1).s, .int .i64 (decRF a0.id a0.series a0.made a0.evs a1).e, .int .i64 (decRF a0.id a0.series a0.made a0.evs a1).d, .int .i64 (decRF a0.id a0.series a0.made a0.evs a1).a] 62)).cell? ⟨w5.heap.size, 3, none⟩ = some (.int .i64 (decRF a0.id a0.series a0.made a0.evs a1).a) := by simp
  have rb_wl : w5.heap.size < (w5.alloc (.cells #[.int .i64 (decRF a0.id a0.series a0.made a0.evs a1).s, .int .i64 (decRF a0.id a0.series a0.made a0.evs a1).e, .int .i64 (decRF a0.id a0.series a0.made a0.evs a1).d, .int .i64 (decRF a0.id a0.series a0.made a0.evs a1).a] 62)).heap.size := by simp
  have rb_wz : w.heap.size ≤ w5.heap.size := h5.size
  generalize (w5.alloc (.cells #[.int .i64 (decRF a0.id a0.series a0.made a0.evs a1).s, .int .i64 (decRF a0.id a0.series a0.made a0.evs a1).e, .int .i64 (decRF a0.id a0.series a0.made a0.evs a1).d, .int .i64 (decRF a0.id a0.series a0.made a0.evs a1).a] 62)) = wA1 at *
  have hA1 := blw h5 hbA1
  have zA1 := hbA1.size
  replace bx0_0 : wA1.cell? ⟨w.heap.size, 0, none⟩ = some (.int .i64 a0.id) := (hbA1.cell (p := ⟨w.heap.size, 0, none⟩) bl0).trans bx0_0
  replace bx0_1 : wA1.cell? ⟨w.heap.size, 1, none⟩ = some (.int .i64 a0.series) := (hbA1.cell (p := ⟨w.heap.size, 1, none⟩) bl0).trans bx0_1
  replace bx0_2 : wA1.cell? ⟨w.heap.size, 2, none⟩ = some (.int .i64 a0.made) := (hbA1.cell (p := ⟨w.heap.size, 2, none⟩) bl0).trans bx0_2
  replace bx0_3 : wA1.cell? ⟨w.heap.size, 3, none⟩ = some (.slice a0.A a0.evs.length a0.c) := (hbA1.cell (p := ⟨w.heap.size, 3, none⟩) bl0).trans bx0_3
  replace bl0 := Nat.lt_of_lt_of_le bl0 hbA1.size
  refine (toRecord_any _ _ _ _ _ a0.evs _ ((hl0.below hA1).more hA1.size) hn0).mono ?_
  rintro e w6 ⟨g_x0, gl_x0, rfl, o_x0, hb6⟩
  have h6 := blw hA1 hb6
  have z6 := hb6.size
  replace bx0_0 : w6.cell? ⟨w.heap.size, 0, none⟩ = some (.int .i64 a0.id) := (hb6.cell (p := ⟨w.heap.size, 0, none⟩) bl0).trans bx0_0
  replace bx0_1 : w6.cell? ⟨w.heap.size, 1, none⟩ = some (.int .i64 a0.series) := (hb6.cell (p := ⟨w.heap.size, 1, none⟩) bl0).trans bx0_1
  replace bx0_2 : w6.cell? ⟨w.heap.size, 2, none⟩ = some (.int .i64 a0.made) := (hb6.cell (p := ⟨w.heap.size, 2, none⟩) bl0).trans bx0_2
  replace bx0_3 : w6.cell? ⟨w.heap.size, 3, none⟩ = some (.slice a0.A a0.evs.length a0.c) := (hb6.cell (p := ⟨w.heap.size, 3, none⟩) bl0).trans bx0_3
  replace bl0 := Nat.lt_of_lt_of_le bl0 hb6.size
  replace rb_w_0 : w6.cell? ⟨w5.heap.size, 0, none⟩ = some (.int .i64 (decRF a0.id a0.series a0.made a0.evs a1).s) := (hb6.cell (p := ⟨w5.heap.size, 0, none⟩) rb_wl).trans rb_w_0
  replace rb_w_1 : w6.cell? ⟨w5.heap.size, 1, none⟩ = some (.int .i64 (decRF a0.id a0.series a0.made a0.evs a1).e) := (hb6.cell (p := ⟨w5.heap.size, 1, none⟩) rb_wl).trans rb_w_1
  replace rb_w_2 : w6.cell? ⟨w5.heap.size, 2, none⟩ = some (.int .i64 (decRF a0.id a0.series a0.made a0.evs a1).d) := (hb6.cell (p := ⟨w5.heap.size, 2, none⟩) rb_wl).trans rb_w_2
  replace rb_w_3 : w6.cell? ⟨w5.heap.size, 3, none⟩ = some (.int .i64 (decRF a0.id a0.series a0.made a0.evs a1).a) := (hb6.cell (p := ⟨w5.heap.size, 3, none⟩) rb_wl).trans rb_w_3
  replace rb_wl := Nat.lt_of_lt_of_le rb_wl hb6.size
  have y_x0 := o_x0.lt
  go_wp2_with fail
  have hbA2 : Below w6.heap.size w6 (w6.alloc (.cells #[.int .i64 a0.id, .int .i64 a0.series, .int .i64 a0.made, .slice (some ⟨g_x0, 0, none⟩) a0.evs.length a0.evs.length] 30)) := (Below.refl _ _).alloc (Nat.le_refl _) _
  have xb0_0 : (w6.alloc (.cells #[.int .i64 a0.id, .int .i64 a0.series, .int .i64 a0.made, .slice (some ⟨g_x0, 0, none⟩) a0.evs.length a0.evs.length] 30)).cell? ⟨w6.heap.size, 0, none⟩ = some (.int .i64 a0.id) := by simp
  have xb0_1 : (w6.alloc (.cells #[.int .i64 a0.id, .int .i64 a0.series, .int .i64 a0.made, .slice (some ⟨g_x0, 0, none⟩) a0.evs.length a0.evs.length] 30)).cell? ⟨w6.heap.size, 1, none⟩ = some (.int .i64 a0.series) := by simp
  have xb0_2 : (w6.alloc (.cells #[.int .i64 a0.id, .int .i64 a0.series, .int .i64 a0.made, .slice (some ⟨g_x0, 0, none⟩) a0.evs.length a0.evs.length] 30)).cell? ⟨w6.heap.size, 2, none⟩ = some (.int .i64 a0.made) := by simp
  have xb0_3 : (w6.alloc (.cells #[.int .i64 a0.id, .int .i64 a0.series, .int .i64 a0.made, .slice (some ⟨g_x0, 0, none⟩) a0.evs.length a0.evs.length] 30)).cell? ⟨w6.heap.size, 3, none⟩ = some (.slice (some ⟨g_x0, 0, none⟩) a0.evs.length a0.evs.length) := by simp
  have xb0l : w6.heap.size < (w6.alloc (.cells #[.int .i64 a0.id, .int .i64 a0.series, .int .i64 a0.made, .slice (some ⟨g_x0, 0, none⟩) a0.evs.length a0.evs.length] 30)).heap.size := by simp
  have xb0z : w.heap.size ≤ w6.heap.size := h6.size
  generalize (w6.alloc (.cells #[.int .i64 a0.id, .int .i64 a0.series, .int .i64 a0.made, .slice (some ⟨g_x0, 0, none⟩) a0.evs.length a0.evs.length] 30)) = wA2 at *
  have hA2 := blw h6 hbA2
  have zA2 := hbA2.size
  replace bx0_0 : wA2.cell? ⟨w.heap.size, 0, none⟩ = some (.int .i64 a0.id) := (hbA2.cell (p := ⟨w.heap.size, 0, none⟩) bl0).trans bx0_0
  replace bx0_1 : wA2.cell? ⟨w.heap.size, 1, none⟩ = some (.int .i64 a0.series) := (hbA2.cell (p := ⟨w.heap.size, 1, none⟩) bl0).trans bx0_1
  replace bx0_2 : wA2.cell? ⟨w.heap.size, 2, none⟩ = some (.int .i64 a0.made) := (hbA2.cell (p := ⟨w.heap.size, 2, none⟩) bl0).trans bx0_2
  replace bx0_3 : wA2.cell? ⟨w.heap.size, 3, none⟩ = some (.slice a0.A a0.evs.length a0.c) := (hbA2.cell (p := ⟨w.heap.size, 3, none⟩) bl0).trans bx0_3
  replace bl0 := Nat.lt_of_lt_of_le bl0 hbA2.size
  replace rb_w_0 : wA2.cell? ⟨w5.heap.size, 0, none⟩ = some (.int .i64 (decRF a0.id a0.series a0.made a0.evs a1).s) := (hbA2.cell (p := ⟨w5.heap.size, 0, none⟩) rb_wl).trans rb_w_0
  replace rb_w_1 : wA2.cell? ⟨w5.heap.size, 1, none⟩ = some (.int .i64 (decRF a0.id a0.series a0.made a0.evs a1).e) := (hbA2.cell (p := ⟨w5.heap.size, 1, none⟩) rb_wl).trans rb_w_1
  replace rb_w_2 : wA2.cell? ⟨w5.heap.size, 2, none⟩ = some (.int .i64 (decRF a0.id a0.series a0.made a0.evs a1).d) := (hbA2.cell (p := ⟨w5.heap.size, 2, none⟩) rb_wl).trans rb_w_2
  replace rb_w_3 : wA2.cell? ⟨w5.heap.size, 3, none⟩ = some (.int .i64 (decRF a0.id a0.series a0.made a0.evs a1).a) := (hbA2.cell (p := ⟨w5.heap.size, 3, none⟩) rb_wl).trans rb_w_3
  replace rb_wl := Nat.lt_of_lt_of_le rb_wl hbA2.size
  replace o_x0 := o_x0.below hbA2 o_x0.lt
  refine (toRuleS_any _ _ a1 _ ((hl1.below hA2).more hA2.size) hn1).mono ?_
  rintro e w7 ⟨g_x1, gl_x1, rfl, o_x1, hb7⟩
  have h7 := blw hA2 hb7
  have z7 := hb7.size
  replace bx0_0 : w7.cell? ⟨w.heap.size, 0, none⟩ = some (.int .i64 a0.id) := (hb7.cell (p := ⟨w.heap.size, 0, none⟩) bl0).trans bx0_0
  replace bx0_1 : w7.cell? ⟨w.heap.size, 1, none⟩ = some (.int .i64 a0.series) := (hb7.cell (p := ⟨w.heap.size, 1, none⟩) bl0).trans bx0_1
  replace bx0_2 : w7.cell? ⟨w.heap.size, 2, none⟩ = some (.int .i64 a0.made) := (hb7.cell (p := ⟨w.heap.size, 2, none⟩) bl0).trans bx0_2
  replace bx0_3 : w7.cell? ⟨w.heap.size, 3, none⟩ = some (.slice a0.A a0.evs.length a0.c) := (hb7.cell (p := ⟨w.heap.size, 3, none⟩) bl0).trans bx0_3
  replace bl0 := Nat.lt_of_lt_of_le bl0 hb7.size
  replace rb_w_0 : w7.cell? ⟨w5.heap.size, 0, none⟩ = some (.int .i64 (decRF a0.id a0.series a0.made a0.evs a1).s) := (hb7.cell (p := ⟨w5.heap.size, 0, none⟩) rb_wl).trans rb_w_0
  replace rb_w_1 : w7.cell? ⟨w5.heap.size, 1, none⟩ = some (.int .i64 (decRF a0.id a0.series a0.made a0.evs a1).e) := (hb7.cell (p := ⟨w5.heap.size, 1, none⟩) rb_wl).trans rb_w_1
  replace rb_w_2 : w7.cell? ⟨w5.heap.size, 2, none⟩ = some (.int .i64 (decRF a0.id a0.series a0.made a0.evs a1).d) := (hb7.cell (p := ⟨w5.heap.size, 2, none⟩) rb_wl).trans rb_w_2
  replace rb_w_3 : w7.cell? ⟨w5.heap.size, 3, none⟩ = some (.int .i64 (decRF a0.id a0.series a0.made a0.evs a1).a) := (hb7.cell (p := ⟨w5.heap.size, 3, none⟩) rb_wl).trans rb_w_3
  replace rb_wl := Nat.lt_of_lt_of_le rb_wl hb7.size
  replace xb0_0 : w7.cell? ⟨w6.heap.size, 0, none⟩ = some (.int .i64 a0.id) := (hb7.cell (p := ⟨w6.heap.size, 0, none⟩) xb0l).trans xb0_0
  replace xb0_1 : w7.cell? ⟨w6.heap.size, 1, none⟩ = some (.int .i64 a0.series) := (hb7.cell (p := ⟨w6.heap.size, 1, none⟩) xb0l).trans xb0_1
  replace xb0_2 : w7.cell? ⟨w6.heap.size, 2, none⟩ = some (.int .i64 a0.made) := (hb7.cell (p := ⟨w6.heap.size, 2, none⟩) xb0l).trans xb0_2
  replace xb0_3 : w7.cell? ⟨w6.heap.size, 3, none⟩ = some (.slice (some ⟨g_x0, 0, none⟩) a0.evs.length a0.evs.length) := (hb7.cell (p := ⟨w6.heap.size, 3, none⟩) xb0l).trans xb0_3
  replace xb0l := Nat.lt_of_lt_of_le xb0l hb7.size
  replace o_x0 := o_x0.below hb7 o_x0.lt
  have y_x1 := o_x1.lt
  go_wp2_with fail
  refine (c_impl_DecidingRule _ _ _ _ _ a0.evs _ _ a1 _ (o_x0.ls encEv_len) hn0 (o_x1.ls encRule_len) hn1).mono ?_
  rintro e w8 ⟨rfl, hb8⟩
  have h8 := blw h7 hb8
  have z8 := hb8.size
  replace bx0_0 : w8.cell? ⟨w.heap.size, 0, none⟩ = some (.int .i64 a0.id) := (hb8.cell (p := ⟨w.heap.size, 0, none⟩) bl0).trans bx0_0
  replace bx0_1 : w8.cell? ⟨w.heap.size, 1, none⟩ = some (.int .i64 a0.series) := (hb8.cell (p := ⟨w.heap.size, 1, none⟩) bl0).trans bx0_1
  replace bx0_2 : w8.cell? ⟨w.heap.size, 2, none⟩ = some (.int .i64 a0.made) := (hb8.cell (p := ⟨w.heap.size, 2, none⟩) bl0).trans bx0_2
  replace bx0_3 : w8.cell? ⟨w.heap.size, 3, none⟩ = some (.slice a0.A a0.evs.length a0.c) := (hb8.cell (p := ⟨w.heap.size, 3, none⟩) bl0).trans bx0_3
  replace bl0 := Nat.lt_of_lt_of_le bl0 hb8.size
  replace rb_w_0 : w8.cell? ⟨w5.heap.size, 0, none⟩ = some (.int .i64 (decRF a0.id a0.series a0.made a0.evs a1).s) := (hb8.cell (p := ⟨w5.heap.size, 0, none⟩) rb_wl).trans rb_w_0
  replace rb_w_1 : w8.cell? ⟨w5.heap.size, 1, none⟩ = some (.int .i64 (decRF a0.id a0.series a0.made a0.evs a1).e) := (hb8.cell (p := ⟨w5.heap.size, 1, none⟩) rb_wl).trans rb_w_1
  replace rb_w_2 : w8.cell? ⟨w5.heap.size, 2, none⟩ = some (.int .i64 (decRF a0.id a0.series a0.made a0.evs a1).d) := (hb8.cell (p := ⟨w5.heap.size, 2, none⟩) rb_wl).trans rb_w_2
  replace rb_w_3 : w8.cell? ⟨w5.heap.size, 3, none⟩ = some (.int .i64 (decRF a0.id a0.series a0.made a0.evs a1).a) := (hb8.cell (p := ⟨w5.heap.size, 3, none⟩) rb_wl).trans rb_w_3
  replace rb_wl := Nat.lt_of_lt_of_le rb_wl hb8.size
  replace xb0_0 : w8.cell? ⟨w6.heap.size, 0, none⟩ = some (.int .i64 a0.id) := (hb8.cell (p := ⟨w6.heap.size, 0, none⟩) xb0l).trans xb0_0
  replace xb0_1 : w8.cell? ⟨w6.heap.size, 1, none⟩ = some (.int .i64 a0.series) := (hb8.cell (p := ⟨w6.heap.size, 1, none⟩) xb0l).trans xb0_1
  replace xb0_2 : w8.cell? ⟨w6.heap.size, 2, none⟩ = some (.int .i64 a0.made) := (hb8.cell (p := ⟨w6.heap.size, 2, none⟩) xb0l).trans xb0_2
  replace xb0_3 : w8.cell? ⟨w6.heap.size, 3, none⟩ = some (.slice (some ⟨g_x0, 0, none⟩) a0.evs.length a0.evs.length) := (hb8.cell (p := ⟨w6.heap.size, 3, none⟩) xb0l).trans xb0_3
  replace xb0l := Nat.lt_of_lt_of_le xb0l hb8.size
  replace o_x0 := o_x0.below hb8 o_x0.lt
  replace o_x1 := o_x1.below hb8 o_x1.lt
  go_wp2_with fail
  have hbA3 : Below w8.heap.size w8 (w8.alloc (.cells #[.int .i64 (decRF a0.id a0.series a0.made a0.evs a1).s, .int .i64 (decRF a0.id a0.series a0.made a0.evs a1).e, .int .i64 (decRF a0.id a0.series a0.made a0.evs a1).d, .int .i64 (decRF a0.id a0.series a0.made a0.evs a1).a] 62)) := (Below.refl _ _).alloc (Nat.le_refl _) _
  have rb_g_0 : (w8.alloc (.cells #[.int .i64 (decRF a0.id a0.series a0.made a0.evs a1).s, .int .i64 (decRF a0.id a0.series a0.made a0.evs a1).e, .int .i64 (decRF a0.id a0.series a0.made a0.evs a1).d, .int .i64 (decRF a0.id a0.series a0.made a0.evs a1).a] 62)).cell? ⟨w8.heap.size, 0, none⟩ = some (.int .i64 (decRF a0.id a0.series a0.made a0.evs a1).s) := by simp
  have rb_g_1 : (w8.alloc (.cells #[.int .i64 (decRF a0.id a0.series a0.made a0.evs a1).s, .int .i64 (decRF a0.id a0.series a0.made a0.evs a1).e, .int .i64 (decRF a0.id a0.series a0.made a0.evs a1).d, .int .i64 (decRF a0.id a0.series a0.made a0.evs a1).a] 62)).cell? ⟨w8.heap.size, 1, none⟩ = some (.int .i64 (decRF a0.id a0.series a0.made a0.evs a1).e) := by simp
  have rb_g_2 : (w8.alloc (.cells #[.int .i64 (decRF a0.id a0.series a0.made a0.evs a1).s, .int .i64 (decRF a0.id a0.series a0.made a0.evs a1).e, .int .i64 (decRF a0.id a0.series a0.made a0.evs a1).d, .int .i64 (decRF a0.id a0.series a0.made a0.evs a1).a] 62)).cell? ⟨w8.heap.size, 2, none⟩ = some (.int .i64 (decRF a0.id a0.series a0.made a0.evs a1).d) := by simp
  have rb_g_3 : (w8.alloc (.cells #[.int .i64 (decRF a0.id a0.series a0.made a0.evs a1).s, .int .i64 (decRF a0.id a0.series a0.made a0.evs a1).e, .int .i64 (decRF a0.id a0.series a0.made a0.evs a1).d, .int .i64 (decRF a0.id a0.series a0.made a0.evs a1).a] 62)).cell? ⟨w8.heap.size, 3, none⟩ = some (.int .i64 (decRF a0.id a0.series a0.made a0.evs a1).a) := by simp
  have rb_gl : w8.heap.size < (w8.alloc (.cells #[.int .i64 (decRF a0.id a0.series a0.made a0.evs a1).s, .int .i64 (decRF a0.id a0.series a0.made a0.evs a1).e, .int .i64 (decRF a0.id a0.series a0.made a0.evs a1).d, .int .i64 (decRF a0.id a0.series a0.made a0.evs a1).a] 62)).heap.size := by simp
  have rb_gz : w.heap.size ≤ w8.heap.size := h8.size
  generalize (w8.alloc (.cells #[.int .i64 (decRF a0.id a0.series a0.made a0.evs a1).s, .int .i64 (decRF a0.id a0.series a0.made a0.evs a1).e, .int .i64 (decRF a0.id a0.series a0.made a0.evs a1).d, .int .i64 (decRF a0.id a0.series a0.made a0.evs a1).a] 62)) = wA3 at *
  have hA3 := blw h8 hbA3
  have zA3 := hbA3.size
  replace bx0_0 : wA3.cell? ⟨w.heap.size, 0, none⟩ = some (.int .i64 a0.id) := (hbA3.cell (p := ⟨w.heap.size, 0, none⟩) bl0).trans bx0_0
  replace bx0_1 : wA3.cell? ⟨w.heap.size, 1, none⟩ = some (.int .i64 a0.series) := (hbA3.cell (p := ⟨w.heap.size, 1, none⟩) bl0).trans bx0_1
  replace bx0_2 : wA3.cell? ⟨w.heap.size, 2, none⟩ = some (.int .i64 a0.made) := (hbA3.cell (p := ⟨w.heap.size, 2, none⟩) bl0).trans bx0_2
  replace bx0_3 : wA3.cell? ⟨w.heap.size, 3, none⟩ = some (.slice a0.A a0.evs.length a0.c) := (hbA3.cell (p := ⟨w.heap.size, 3, none⟩) bl0).trans bx0_3
  replace bl0 := Nat.lt_of_lt_of_le bl0 hbA3.size
  replace rb_w_0 : wA3.cell? ⟨w5.heap.size, 0, none⟩ = some (.int .i64 (decRF a0.id a0.series a0.made a0.evs a1).s) := (hbA3.cell (p := ⟨w5.heap.size, 0, none⟩) rb_wl).trans rb_w_0
  replace rb_w_1 : wA3.cell? ⟨w5.heap.size, 1, none⟩ = some (.int .i64 (decRF a0.id a0.series a0.made a0.evs a1).e) := (hbA3.cell (p := ⟨w5.heap.size, 1, none⟩) rb_wl).trans rb_w_1
  replace rb_w_2 : wA3.cell? ⟨w5.heap.size, 2, none⟩ = some (.int .i64 (decRF a0.id a0.series a0.made a0.evs a1).d) := (hbA3.cell (p := ⟨w5.heap.size, 2, none⟩) rb_wl).trans rb_w_2
  replace rb_w_3 : wA3.cell? ⟨w5.heap.size, 3, none⟩ = some (.int .i64 (decRF a0.id a0.series a0.made a0.evs a1).a) := (hbA3.cell (p := ⟨w5.heap.size, 3, none⟩) rb_wl).trans rb_w_3
  replace rb_wl := Nat.lt_of_lt_of_le rb_wl hbA3.size
  replace xb0_0 : wA3.cell? ⟨w6.heap.size, 0, none⟩ = some (.int .i64 a0.id) := (hbA3.cell (p := ⟨w6.heap.size, 0, none⟩) xb0l).trans xb0_0
  replace xb0_1 : wA3.cell? ⟨w6.heap.size, 1, none⟩ = some (.int .i64 a0.series) := (hbA3.cell (p := ⟨w6.heap.size, 1, none⟩) xb0l).trans xb0_1
  replace xb0_2 : wA3.cell? ⟨w6.heap.size, 2, none⟩ = some (.int .i64 a0.made) := (hbA3.cell (p := ⟨w6.heap.size, 2, none⟩) xb0l).trans xb0_2
  replace xb0_3 : wA3.cell? ⟨w6.heap.size, 3, none⟩ = some (.slice (some ⟨g_x0, 0, none⟩) a0.evs.length a0.evs.length) := (hbA3.cell (p := ⟨w6.heap.size, 3, none⟩) xb0l).trans xb0_3
  replace xb0l := Nat.lt_of_lt_of_le xb0l hbA3.size
  replace o_x0 := o_x0.below hbA3 o_x0.lt
  replace o_x1 := o_x1.below hbA3 o_x1.lt
  refine (eqRule_v _ _ _ _ _).mono ?_
  rintro e w9 ⟨rfl, hb9⟩
  have h9 := blw hA3 hb9
  have z9 := hb9.size
  replace bx0_0 : w9.cell? ⟨w.heap.size, 0, none⟩ = some (.int .i64 a0.id) := (hb9.cell (p := ⟨w.heap.size, 0, none⟩) bl0).trans bx0_0
  replace bx0_1 : w9.cell? ⟨w.heap.size, 1, none⟩ = some (.int .i64 a0.series) := (hb9.cell (p := ⟨w.heap.size, 1, none⟩) bl0).trans bx0_1
  replace bx0_2 : w9.cell? ⟨w.heap.size, 2, none⟩ = some (.int .i64 a0.made) := (hb9.cell (p := ⟨w.heap.size, 2, none⟩) bl0).trans bx0_2
  replace bx0_3 : w9.cell? ⟨w.heap.size, 3, none⟩ = some (.slice a0.A a0.evs.length a0.c) := (hb9.cell (p := ⟨w.heap.size, 3, none⟩) bl0).trans bx0_3
  replace bl0 := Nat.lt_of_lt_of_le bl0 hb9.size
  replace rb_w_0 : w9.cell? ⟨w5.heap.size, 0, none⟩ = some (.int .i64 (decRF a0.id a0.series a0.made a0.evs a1).s) := (hb9.cell (p := ⟨w5.heap.size, 0, none⟩) rb_wl).trans rb_w_0
  replace rb_w_1 : w9.cell? ⟨w5.heap.size, 1, none⟩ = some (.int .i64 (decRF a0.id a0.series a0.made a0.evs a1).e) := (hb9.cell (p := ⟨w5.heap.size, 1, none⟩) rb_wl).trans rb_w_1
  replace rb_w_2 : w9.cell? ⟨w5.heap.size, 2, none⟩ = some (.int .i64 (decRF a0.id a0.series a0.made a0.evs a1).d) := (hb9.cell (p := ⟨w5.heap.size, 2, none⟩) rb_wl).trans rb_w_2
  replace rb_w_3 : w9.cell? ⟨w5.heap.size, 3, none⟩ = some (.int .i64 (decRF a0.id a0.series a0.made a0.evs a1).a) := (hb9.cell (p := ⟨w5.heap.size, 3, none⟩) rb_wl).trans rb_w_3
  replace rb_wl := Nat.lt_of_lt_of_le rb_wl hb9.size
  replace xb0_0 : w9.cell? ⟨w6.heap.size, 0, none⟩ = some (.int .i64 a0.id) := (hb9.cell (p := ⟨w6.heap.size, 0, none⟩) xb0l).trans xb0_0
  replace xb0_1 : w9.cell? ⟨w6.heap.size, 1, none⟩ = some (.int .i64 a0.series) := (hb9.cell (p := ⟨w6.heap.size, 1, none⟩) xb0l).trans xb0_1
  replace xb0_2 : w9.cell? ⟨w6.heap.size, 2, none⟩ = some (.int .i64 a0.made) := (hb9.cell (p := ⟨w6.heap.size, 2, none⟩) xb0l).trans xb0_2
  replace xb0_3 : w9.cell? ⟨w6.heap.size, 3, none⟩ = some (.slice (some ⟨g_x0, 0, none⟩) a0.evs.length a0.evs.length) := (hb9.cell (p := ⟨w6.heap.size, 3, none⟩) xb0l).trans xb0_3
  replace xb0l := Nat.lt_of_lt_of_le xb0l hb9.size
  replace rb_g_0 : w9.cell? ⟨w8.heap.size, 0, none⟩ = some (.int .i64 (decRF a0.id a0.series a0.made a0.evs a1).s) := (hb9.cell (p := ⟨w8.heap.size, 0, none⟩) rb_gl).trans rb_g_0
  replace rb_g_1 : w9.cell? ⟨w8.heap.size, 1, none⟩ = some (.int .i64 (decRF a0.id a0.series a0.made a0.evs a1).e) := (hb9.cell (p := ⟨w8.heap.size, 1, none⟩) rb_gl).trans rb_g_1
  replace rb_g_2 : w9.cell? ⟨w8.heap.size, 2, none⟩ = some (.int .i64 (decRF a0.id a0.series a0.made a0.evs a1).d) := (hb9.cell (p := ⟨w8.heap.size, 2, none⟩) rb_gl).trans rb_g_2
  replace rb_g_3 : w9.cell? ⟨w8.heap.size, 3, none⟩ = some (.int .i64 (decRF a0.id a0.series a0.made a0.evs a1).a) := (hb9.cell (p := ⟨w8.heap.size, 3, none⟩) rb_gl).trans rb_g_3
  replace rb_gl := Nat.lt_of_lt_of_le rb_gl hb9.size
  replace o_x0 := o_x0.below hb9 o_x0.lt
  replace o_x1 := o_x1.below hb9 o_x1.lt
  go_wp2_with fail
  have hk0 : Hid (∀ W, Below w9.heap.size w9 W → W.cell? ⟨w6.heap.size, 0, none⟩ = some (.int .i64 a0.id) ∧ W.cell? ⟨w6.heap.size, 1, none⟩ = some (.int .i64 a0.series) ∧ W.cell? ⟨w6.heap.size, 2, none⟩ = some (.int .i64 a0.made) ∧ W.cell? ⟨w6.heap.size, 3, none⟩ = some (.slice (some ⟨g_x0, 0, none⟩) a0.evs.length a0.evs.length) ∧ W.cell? ⟨w.heap.size, 0, none⟩ = some (.int .i64 a0.id) ∧ W.cell? ⟨w.heap.size, 1, none⟩ = some (.int .i64 a0.series) ∧ W.cell? ⟨w.heap.size, 2, none⟩ = some (.int .i64 a0.made) ∧ W.cell? ⟨w.heap.size, 3, none⟩ = some (.slice a0.A a0.evs.length a0.c)) := fun W hb => ⟨(hb.cell (p := ⟨_, _, _⟩) xb0l).trans xb0_0, (hb.cell (p := ⟨_, _, _⟩) xb0l).trans xb0_1, (hb.cell (p := ⟨_, _, _⟩) xb0l).trans xb0_2, (hb.cell (p := ⟨_, _, _⟩) xb0l).trans xb0_3, (hb.cell (p := ⟨_, _, _⟩) bl0).trans bx0_0, (hb.cell (p := ⟨_, _, _⟩) bl0).trans bx0_1, (hb.cell (p := ⟨_, _, _⟩) bl0).trans bx0_2, (hb.cell (p := ⟨_, _, _⟩) bl0).trans bx0_3⟩
  have o_d0 : Own w9.drew g_x0 49 encEv 2 a0.evs := o_x0
  go_region_held3 (fun W => W.cell? ⟨w6.heap.size, 0, none⟩ = some (.int .i64 a0.id) ∧ W.cell? ⟨w6.heap.size, 1, none⟩ = some (.int .i64 a0.series) ∧ W.cell? ⟨w6.heap.size, 2, none⟩ = some (.int .i64 a0.made) ∧ W.cell? ⟨w6.heap.size, 3, none⟩ = some (.slice (some ⟨g_x0, 0, none⟩) a0.evs.length a0.evs.length) ∧ W.cell? ⟨w.heap.size, 0, none⟩ = some (.int .i64 a0.id) ∧ W.cell? ⟨w.heap.size, 1, none⟩ = some (.int .i64 a0.series) ∧ W.cell? ⟨w.heap.size, 2, none⟩ = some (.int .i64 a0.made) ∧ W.cell? ⟨w.heap.size, 3, none⟩ = some (.slice a0.A a0.evs.length a0.c))
    (first | exact hk0.out _ (Below.refl _ w9).drew | exact hk0.out _ ((Below.refl _ w9).drew.trans hb10) | exact hk0.out _ (blw ((Below.refl _ w9).drew.trans hb10) hb11))
    (first | (go_at_call 15; refine (toRecord_any _ _ _ _ _ a0.evs _ ((hl0.below h9.drew).more h9.size) hn0).mono ?_; rintro e w10 ⟨g_t0, gl_t0, rfl, o_t0, hb10⟩) | (go_at_call 17; refine (eqRecord_any _ _ _ _ _ _ _ a0.evs _ ((o_d0.below hb10 o_d0.lt).ls encEv_len) (o_t0.ls encEv_len) (by omega)).mono ?_; rintro e w11 ⟨rfl, hb11⟩))
  have hb1011 : Below w9.heap.size w9 w11 := blw ((Below.refl _ w9).drew.trans hb10) hb11
  clear o_d0 hk0
  have h11 := blw h9 hb1011
  have z11 := hb1011.size
  replace bx0_0 : w11.cell? ⟨w.heap.size, 0, none⟩ = some (.int .i64 a0.id) := (hb1011.cell (p := ⟨w.heap.size, 0, none⟩) bl0).trans bx0_0
  replace bx0_1 : w11.cell? ⟨w.heap.size, 1, none⟩ = some (.int .i64 a0.series) := (hb1011.cell (p := ⟨w.heap.size, 1, none⟩) bl0).trans bx0_1
  replace bx0_2 : w11.cell? ⟨w.heap.size, 2, none⟩ = some (.int .i64 a0.made) := (hb1011.cell (p := ⟨w.heap.size, 2, none⟩) bl0).trans bx0_2
  replace bx0_3 : w11.cell? ⟨w.heap.size, 3, none⟩ = some (.slice a0.A a0.evs.length a0.c) := (hb1011.cell (p := ⟨w.heap.size, 3, none⟩) bl0).trans bx0_3
  replace bl0 := Nat.lt_of_lt_of_le bl0 hb1011.size
  replace rb_w_0 : w11.cell? ⟨w5.heap.size, 0, none⟩ = some (.int .i64 (decRF a0.id a0.series a0.made a0.evs a1).s) := (hb1011.cell (p := ⟨w5.heap.size, 0, none⟩) rb_wl).trans rb_w_0
  replace rb_w_1 : w11.cell? ⟨w5.heap.size, 1, none⟩ = some (.int .i64 (decRF a0.id a0.series a0.made a0.evs a1).e) := (hb1011.cell (p := ⟨w5.heap.size, 1, none⟩) rb_wl).trans rb_w_1
  replace rb_w_2 : w11.cell? ⟨w5.heap.size, 2, none⟩ = some (.int .i64 (decRF a0.id a0.series a0.made a0.evs a1).d) := (hb1011.cell (p := ⟨w5.heap.size, 2, none⟩) rb_wl).trans rb_w_2
  replace rb_w_3 : w11.cell? ⟨w5.heap.size, 3, none⟩ = some (.int .i64 (decRF a0.id a0.series a0.made a0.evs a1).a) := (hb1011.cell (p := ⟨w5.heap.size, 3, none⟩) rb_wl).trans rb_w_3
  replace rb_wl := Nat.lt_of_lt_of_le rb_wl hb1011.size
  replace xb0_0 : w11.cell? ⟨w6.heap.size, 0, none⟩ = some (.int .i64 a0.id) := (hb1011.cell (p := ⟨w6.heap.size, 0, none⟩) xb0l).trans xb0_0
  replace xb0_1 : w11.cell? ⟨w6.heap.size, 1, none⟩ = some (.int .i64 a0.series) := (hb1011.cell (p := ⟨w6.heap.size, 1, none⟩) xb0l).trans xb0_1
  replace xb0_2 : w11.cell? ⟨w6.heap.size, 2, none⟩ = some (.int .i64 a0.made) := (hb1011.cell (p := ⟨w6.heap.size, 2, none⟩) xb0l).trans xb0_2
  replace xb0_3 : w11.cell? ⟨w6.heap.size, 3, none⟩ = some (.slice (some ⟨g_x0, 0, none⟩) a0.evs.length a0.evs.length) := (hb1011.cell (p := ⟨w6.heap.size, 3, none⟩) xb0l).trans xb0_3
  replace xb0l := Nat.lt_of_lt_of_le xb0l hb1011.size
  replace rb_g_0 : w11.cell? ⟨w8.heap.size, 0, none⟩ = some (.int .i64 (decRF a0.id a0.series a0.made a0.evs a1).s) := (hb1011.cell (p := ⟨w8.heap.size, 0, none⟩) rb_gl).trans rb_g_0
  replace rb_g_1 : w11.cell? ⟨w8.heap.size, 1, none⟩ = some (.int .i64 (decRF a0.id a0.series a0.made a0.evs a1).e) := (hb1011.cell (p := ⟨w8.heap.size, 1, none⟩) rb_gl).trans rb_g_1
  replace rb_g_2 : w11.cell? ⟨w8.heap.size, 2, none⟩ = some (.int .i64 (decRF a0.id a0.series a0.made a0.evs a1).d) := (hb1011.cell (p := ⟨w8.heap.size, 2, none⟩) rb_gl).trans rb_g_2
  replace rb_g_3 : w11.cell? ⟨w8.heap.size, 3, none⟩ = some (.int .i64 (decRF a0.id a0.series a0.made a0.evs a1).a) := (hb1011.cell (p := ⟨w8.heap.size, 3, none⟩) rb_gl).trans rb_g_3
  replace rb_gl := Nat.lt_of_lt_of_le rb_gl hb1011.size
  replace o_x0 := o_x0.below hb1011 o_x0.lt
  replace o_x1 := o_x1.below hb1011 o_x1.lt
  go_wp2_with fail
  refine (toRuleS_any _ _ a1 _ ((hl1.below h11).more h11.size) hn1).mono ?_
  rintro e w12 ⟨g_t1, gl_t1, rfl, o_t1, hb12⟩
  have h12 := blw h11 hb12
  have z12 := hb12.size
  replace bx0_0 : w12.cell? ⟨w.heap.size, 0, none⟩ = some (.int .i64 a0.id) := (hb12.cell (p := ⟨w.heap.size, 0, none⟩) bl0).trans bx0_0
  replace bx0_1 : w12.cell? ⟨w.heap.size, 1, none⟩ = some (.int .i64 a0.series) := (hb12.cell (p := ⟨w.heap.size, 1, none⟩) bl0).trans bx0_1
  replace bx0_2 : w12.cell? ⟨w.heap.size, 2, none⟩ = some (.int .i64 a0.made) := (hb12.cell (p := ⟨w.heap.size, 2, none⟩) bl0).trans bx0_2
  replace bx0_3 : w12.cell? ⟨w.heap.size, 3, none⟩ = some (.slice a0.A a0.evs.length a0.c) := (hb12.cell (p := ⟨w.heap.size, 3, none⟩) bl0).trans bx0_3
  replace bl0 := Nat.lt_of_lt_of_le bl0 hb12.size
  replace rb_w_0 : w12.cell? ⟨w5.heap.size, 0, none⟩ = some (.int .i64 (decRF a0.id a0.series a0.made a0.evs a1).s) := (hb12.cell (p := ⟨w5.heap.size, 0, none⟩) rb_wl).trans rb_w_0
  replace rb_w_1 : w12.cell? ⟨w5.heap.size, 1, none⟩ = some (.int .i64 (decRF a0.id a0.series a0.made a0.evs a1).e) := (hb12.cell (p := ⟨w5.heap.size, 1, none⟩) rb_wl).trans rb_w_1
  replace rb_w_2 : w12.cell? ⟨w5.heap.size, 2, none⟩ = some (.int .i64 (decRF a0.id a0.series a0.made a0.evs a1).d) := (hb12.cell (p := ⟨w5.heap.size, 2, none⟩) rb_wl).trans rb_w_2
  replace rb_w_3 : w12.cell? ⟨w5.heap.size, 3, none⟩ = some (.int .i64 (decRF a0.id a0.series a0.made a0.evs a1).a) := (hb12.cell (p := ⟨w5.heap.size, 3, none⟩) rb_wl).trans rb_w_3
  replace rb_wl := Nat.lt_of_lt_of_le rb_wl hb12.size
  replace xb0_0 : w12.cell? ⟨w6.heap.size, 0, none⟩ = some (.int .i64 a0.id) := (hb12.cell (p := ⟨w6.heap.size, 0, none⟩) xb0l).trans xb0_0
  replace xb0_1 : w12.cell? ⟨w6.heap.size, 1, none⟩ = some (.int .i64 a0.series) := (hb12.cell (p := ⟨w6.heap.size, 1, none⟩) xb0l).trans xb0_1
  replace xb0_2 : w12.cell? ⟨w6.heap.size, 2, none⟩ = some (.int .i64 a0.made) := (hb12.cell (p := ⟨w6.heap.size, 2, none⟩) xb0l).trans xb0_2
  replace xb0_3 : w12.cell? ⟨w6.heap.size, 3, none⟩ = some (.slice (some ⟨g_x0, 0, none⟩) a0.evs.length a0.evs.length) := (hb12.cell (p := ⟨w6.heap.size, 3, none⟩) xb0l).trans xb0_3
  replace xb0l := Nat.lt_of_lt_of_le xb0l hb12.size
  replace rb_g_0 : w12.cell? ⟨w8.heap.size, 0, none⟩ = some (.int .i64 (decRF a0.id a0.series a0.made a0.evs a1).s) := (hb12.cell (p := ⟨w8.heap.size, 0, none⟩) rb_gl).trans rb_g_0
  replace rb_g_1 : w12.cell? ⟨w8.heap.size, 1, none⟩ = some (.int .i64 (decRF a0.id a0.series a0.made a0.evs a1).e) := (hb12.cell (p := ⟨w8.heap.size, 1, none⟩) rb_gl).trans rb_g_1
  replace rb_g_2 : w12.cell? ⟨w8.heap.size, 2, none⟩ = some (.int .i64 (decRF a0.id a0.series a0.made a0.evs a1).d) := (hb12.cell (p := ⟨w8.heap.size, 2, none⟩) rb_gl).trans rb_g_2
  replace rb_g_3 : w12.cell? ⟨w8.heap.size, 3, none⟩ = some (.int .i64 (decRF a0.id a0.series a0.made a0.evs a1).a) := (hb12.cell (p := ⟨w8.heap.size, 3, none⟩) rb_gl).trans rb_g_3
  replace rb_gl := Nat.lt_of_lt_of_le rb_gl hb12.size
  replace o_x0 := o_x0.below hb12 o_x0.lt
  replace o_x1 := o_x1.below hb12 o_x1.lt
  have y_t1 := o_t1.lt
  go_wp2_with fail
  refine (eqRuleS_any _ _ _ _ a1 _ (o_x1.ls encRule_len) (o_t1.ls encRule_len) (by omega)).mono ?_
  rintro e w13 ⟨rfl, hb13⟩
  have h13 := blw h12 hb13
  have z13 := hb13.size
  replace bx0_0 : w13.cell? ⟨w.heap.size, 0, none⟩ = some (.int .i64 a0.id) := (hb13.cell (p := ⟨w.heap.size, 0, none⟩) bl0).trans bx0_0
  replace bx0_1 : w13.cell? ⟨w.heap.size, 1, none⟩ = some (.int .i64 a0.series) := (hb13.cell (p := ⟨w.heap.size, 1, none⟩) bl0).trans bx0_1
  replace bx0_2 : w13.cell? ⟨w.heap.size, 2, none⟩ = some (.int .i64 a0.made) := (hb13.cell (p := ⟨w.heap.size, 2, none⟩) bl0).trans bx0_2
  replace bx0_3 : w13.cell? ⟨w.heap.size, 3, none⟩ = some (.slice a0.A a0.evs.length a0.c) := (hb13.cell (p := ⟨w.heap.size, 3, none⟩) bl0).trans bx0_3
  replace bl0 := Nat.lt_of_lt_of_le bl0 hb13.size
  replace rb_w_0 : w13.cell? ⟨w5.heap.size, 0, none⟩ = some (.int .i64 (decRF a0.id a0.series a0.made a0.evs a1).s) := (hb13.cell (p := ⟨w5.heap.size, 0, none⟩) rb_wl).trans rb_w_0
  replace rb_w_1 : w13.cell? ⟨w5.heap.size, 1, none⟩ = some (.int .i64 (decRF a0.id a0.series a0.made a0.evs a1).e) := (hb13.cell (p := ⟨w5.heap.size, 1, none⟩) rb_wl).trans rb_w_1
  replace rb_w_2 : w13.cell? ⟨w5.heap.size, 2, none⟩ = some (.int .i64 (decRF a0.id a0.series a0.made a0.evs a1).d) := (hb13.cell (p := ⟨w5.heap.size, 2, none⟩) rb_wl).trans rb_w_2
  replace rb_w_3 : w13.cell? ⟨w5.heap.size, 3, none⟩ = some (.int .i64 (decRF a0.id a0.series a0.made a0.evs a1).a) := (hb13.cell (p := ⟨w5.heap.size, 3, none⟩) rb_wl).trans rb_w_3
  replace rb_wl := Nat.lt_of_lt_of_le rb_wl hb13.size
  replace xb0_0 : w13.cell? ⟨w6.heap.size, 0, none⟩ = some (.int .i64 a0.id) := (hb13.cell (p := ⟨w6.heap.size, 0, none⟩) xb0l).trans xb0_0
  replace xb0_1 : w13.cell? ⟨w6.heap.size, 1, none⟩ = some (.int .i64 a0.series) := (hb13.cell (p := ⟨w6.heap.size, 1, none⟩) xb0l).trans xb0_1
  replace xb0_2 : w13.cell? ⟨w6.heap.size, 2, none⟩ = some (.int .i64 a0.made) := (hb13.cell (p := ⟨w6.heap.size, 2, none⟩) xb0l).trans xb0_2
  replace xb0_3 : w13.cell? ⟨w6.heap.size, 3, none⟩ = some (.slice (some ⟨g_x0, 0, none⟩) a0.evs.length a0.evs.length) := (hb13.cell (p := ⟨w6.heap.size, 3, none⟩) xb0l).trans xb0_3
  replace xb0l := Nat.lt_of_lt_of_le xb0l hb13.size
  replace rb_g_0 : w13.cell? ⟨w8.heap.size, 0, none⟩ = some (.int .i64 (decRF a0.id a0.series a0.made a0.evs a1).s) := (hb13.cell (p := ⟨w8.heap.size, 0, none⟩) rb_gl).trans rb_g_0
  replace rb_g_1 : w13.cell? ⟨w8.heap.size, 1, none⟩ = some (.int .i64 (decRF a0.id a0.series a0.made a0.evs a1).e) := (hb13.cell (p := ⟨w8.heap.size, 1, none⟩) rb_gl).trans rb_g_1
  replace rb_g_2 : w13.cell? ⟨w8.heap.size, 2, none⟩ = some (.int .i64 (decRF a0.id a0.series a0.made a0.evs a1).d) := (hb13.cell (p := ⟨w8.heap.size, 2, none⟩) rb_gl).trans rb_g_2
  replace rb_g_3 : w13.cell? ⟨w8.heap.size, 3, none⟩ = some (.int .i64 (decRF a0.id a0.series a0.made a0.evs a1).a) := (hb13.cell (p := ⟨w8.heap.size, 3, none⟩) rb_gl).trans rb_g_3
  replace rb_gl := Nat.lt_of_lt_of_le rb_gl hb13.size
  replace o_x0 := o_x0.below hb13 o_x0.lt
  replace o_x1 := o_x1.below hb13 o_x1.lt
  replace o_t1 := o_t1.below hb13 o_t1.lt
  go_wp2_with fail
  go_ret
  exact ⟨rfl, h13⟩

end Go.Proofs.Ytjbklopkginegaa
