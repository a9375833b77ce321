/- The law of DueDay, walked. -/
import Derived.Test.YtjbklopkginegaaW6
import Derived.Test.YtjbklopkginegaaHRule
import Derived.Deep.RegionHeld3
namespace Go.Proofs.Ytjbklopkginegaa
set_option linter.unusedVariables false
set_option linter.unusedSimpArgs false
open Go.RowKit
attribute [local go_sem] Aft.cell

set_option maxHeartbeats 4000000 in
theorem walk_FnExactDueDay (a0 : Rec) (A1 : Option Addr) (c1 : Nat) (a1 : List RuleD) (w : World) (ok0 : okRec w a0) (ok1 : okSl w encRule 4 okRule A1 a1) :
    Calls Try.prog 10 #[.agg #[.int .i64 a0.id, .int .i64 a0.series, .int .i64 a0.made, .slice a0.A a0.evs.length a0.c], .slice A1 a1.length c1] w fun e w' => e = .returned (.bool true) ∧ Below w.heap.size w w' := by
  obtain ⟨hrg0a, hrg0b, hrg0c, hl0, hok0, hmx0⟩ := ok0
  obtain ⟨hl1, hok1, hmx1⟩ := ok1
  go_enter Try.func10, Try.ntmps10
  go_wp2_with fail
  have h0 : Below w.heap.size w (w.alloc (.cells #[.int .i64 a0.id, .int .i64 a0.series, .int .i64 a0.made, .slice a0.A a0.evs.length a0.c] 24)) := (blw_alloc (Below.refl w.heap.size w) _)
  have bx0_0 : (w.alloc (.cells #[.int .i64 a0.id, .int .i64 a0.series, .int .i64 a0.made, .slice a0.A a0.evs.length a0.c] 24)).cell? ⟨w.heap.size, 0, none⟩ = some (.int .i64 a0.id) := by simp [World.cell?_alloc_lt]
  have bx0_1 : (w.alloc (.cells #[.int .i64 a0.id, .int .i64 a0.series, .int .i64 a0.made, .slice a0.A a0.evs.length a0.c] 24)).cell? ⟨w.heap.size, 1, none⟩ = some (.int .i64 a0.series) := by simp [World.cell?_alloc_lt]
  have bx0_2 : (w.alloc (.cells #[.int .i64 a0.id, .int .i64 a0.series, .int .i64 a0.made, .slice a0.A a0.evs.length a0.c] 24)).cell? ⟨w.heap.size, 2, none⟩ = some (.int .i64 a0.made) := by simp [World.cell?_alloc_lt]
  have bx0_3 : (w.alloc (.cells #[.int .i64 a0.id, .int .i64 a0.series, .int .i64 a0.made, .slice a0.A a0.evs.length a0.c] 24)).cell? ⟨w.heap.size, 3, none⟩ = some (.slice a0.A a0.evs.length a0.c) := by simp [World.cell?_alloc_lt]
  have bl0 : w.heap.size < (w.alloc (.cells #[.int .i64 a0.id, .int .i64 a0.series, .int .i64 a0.made, .slice a0.A a0.evs.length a0.c] 24)).heap.size := by simp; try omega
  generalize (w.alloc (.cells #[.int .i64 a0.id, .int .i64 a0.series, .int .i64 a0.made, .slice a0.A a0.evs.length a0.c] 24)) = W0 at *
  go_wp2_with fail
  refine (szRecord_sz _ _ _ _ _ _ _ _ hmx0 (by omega) (by omega)).mono ?_
  rintro e w1 ⟨r1, rfl, hra1, hrb1, hrp1, hb1⟩
  have h1 := blw h0 hb1
  have z1 := hb1.size
  replace bx0_0 : w1.cell? ⟨w.heap.size, 0, none⟩ = some (.int .i64 a0.id) := (hb1.cell (p := ⟨w.heap.size, 0, none⟩) bl0).trans bx0_0
  replace bx0_1 : w1.cell? ⟨w.heap.size, 1, none⟩ = some (.int .i64 a0.series) := (hb1.cell (p := ⟨w.heap.size, 1, none⟩) bl0).trans bx0_1
  replace bx0_2 : w1.cell? ⟨w.heap.size, 2, none⟩ = some (.int .i64 a0.made) := (hb1.cell (p := ⟨w.heap.size, 2, none⟩) bl0).trans bx0_2
  replace bx0_3 : w1.cell? ⟨w.heap.size, 3, none⟩ = some (.slice a0.A a0.evs.length a0.c) := (hb1.cell (p := ⟨w.heap.size, 3, none⟩) bl0).trans bx0_3
  replace bl0 := Nat.lt_of_lt_of_le bl0 hb1.size
  by_cases hneg1 : r1 < 0
  · clear hrp1
    go_wp2_with fail
    go_ret
    exact ⟨rfl, h1⟩
  have hn0 := hrp1 (by omega)
  clear hrp1
  have hnn1 : ¬ r1 < 0 := hneg1
  go_wp2_with fail
  refine (szRuleS_sz _ _ _ _ _ hmx1 (by omega) (by omega)).mono ?_
  rintro e w2 ⟨r2, rfl, hra2, hrb2, hrp2, hb2⟩
  have h2 := blw h1 hb2
  have z2 := hb2.size
  replace bx0_0 : w2.cell? ⟨w.heap.size, 0, none⟩ = some (.int .i64 a0.id) := (hb2.cell (p := ⟨w.heap.size, 0, none⟩) bl0).trans bx0_0
  replace bx0_1 : w2.cell? ⟨w.heap.size, 1, none⟩ = some (.int .i64 a0.series) := (hb2.cell (p := ⟨w.heap.size, 1, none⟩) bl0).trans bx0_1
  replace bx0_2 : w2.cell? ⟨w.heap.size, 2, none⟩ = some (.int .i64 a0.made) := (hb2.cell (p := ⟨w.heap.size, 2, none⟩) bl0).trans bx0_2
  replace bx0_3 : w2.cell? ⟨w.heap.size, 3, none⟩ = some (.slice a0.A a0.evs.length a0.c) := (hb2.cell (p := ⟨w.heap.size, 3, none⟩) bl0).trans bx0_3
  replace bl0 := Nat.lt_of_lt_of_le bl0 hb2.size
  by_cases hneg2 : r2 < 0
  · clear hrp2
    go_wp2_with fail
    go_ret
    exact ⟨rfl, h2⟩
  have hn1 := hrp2 (by omega)
  clear hrp2
  have hnn2 : ¬ r2 < 0 := hneg2
  go_wp2_with fail
  refine (toRecord_any _ _ _ _ _ a0.evs _ ((hl0.below h2).more h2.size) hn0).mono ?_
  rintro e w3 ⟨g_s0, gl_s0, rfl, o_s0, hb3⟩
  have h3 := blw h2 hb3
  have z3 := hb3.size
  replace bx0_0 : w3.cell? ⟨w.heap.size, 0, none⟩ = some (.int .i64 a0.id) := (hb3.cell (p := ⟨w.heap.size, 0, none⟩) bl0).trans bx0_0
  replace bx0_1 : w3.cell? ⟨w.heap.size, 1, none⟩ = some (.int .i64 a0.series) := (hb3.cell (p := ⟨w.heap.size, 1, none⟩) bl0).trans bx0_1
  replace bx0_2 : w3.cell? ⟨w.heap.size, 2, none⟩ = some (.int .i64 a0.made) := (hb3.cell (p := ⟨w.heap.size, 2, none⟩) bl0).trans bx0_2
  replace bx0_3 : w3.cell? ⟨w.heap.size, 3, none⟩ = some (.slice a0.A a0.evs.length a0.c) := (hb3.cell (p := ⟨w.heap.size, 3, none⟩) bl0).trans bx0_3
  replace bl0 := Nat.lt_of_lt_of_le bl0 hb3.size
  have y_s0 := o_s0.lt
  go_wp2_with fail
  refine (toRuleS_any _ _ a1 _ ((hl1.below h3).more h3.size) hn1).mono ?_
  rintro e w4 ⟨g_s1, gl_s1, rfl, o_s1, hb4⟩
  have h4 := blw h3 hb4
  have z4 := hb4.size
  replace bx0_0 : w4.cell? ⟨w.heap.size, 0, none⟩ = some (.int .i64 a0.id) := (hb4.cell (p := ⟨w.heap.size, 0, none⟩) bl0).trans bx0_0
  replace bx0_1 : w4.cell? ⟨w.heap.size, 1, none⟩ = some (.int .i64 a0.series) := (hb4.cell (p := ⟨w.heap.size, 1, none⟩) bl0).trans bx0_1
  replace bx0_2 : w4.cell? ⟨w.heap.size, 2, none⟩ = some (.int .i64 a0.made) := (hb4.cell (p := ⟨w.heap.size, 2, none⟩) bl0).trans bx0_2
  replace bx0_3 : w4.cell? ⟨w.heap.size, 3, none⟩ = some (.slice a0.A a0.evs.length a0.c) := (hb4.cell (p := ⟨w.heap.size, 3, none⟩) bl0).trans bx0_3
  replace bl0 := Nat.lt_of_lt_of_le bl0 hb4.size
  replace o_s0 := o_s0.below hb4 o_s0.lt
  have y_s1 := o_s1.lt
  go_wp2_with fail
  refine (c_spec_DueDay _ _ _ _ _ a0.evs _ _ a1 _ (o_s0.ls encEv_len) hn0 (o_s1.ls encRule_len) hn1).mono ?_
  rintro e w5 ⟨rfl, hb5⟩
  have h5 := blw h4 hb5
  have z5 := hb5.size
  replace bx0_0 : w5.cell? ⟨w.heap.size, 0, none⟩ = some (.int .i64 a0.id) := (hb5.cell (p := ⟨w.heap.size, 0, none⟩) bl0).trans bx0_0
  replace bx0_1 : w5.cell? ⟨w.heap.size, 1, none⟩ = some (.int .i64 a0.series) := (hb5.cell (p := ⟨w.heap.size, 1, none⟩) bl0).trans bx0_1
  replace bx0_2 : w5.cell? ⟨w.heap.size, 2, none⟩ = some (.int .i64 a0.made) := (hb5.cell (p := ⟨w.heap.size, 2, none⟩) bl0).trans bx0_2
  replace bx0_3 : w5.cell? ⟨w.heap.size, 3, none⟩ = some (.slice a0.A a0.evs.length a0.c) := (hb5.cell (p := ⟨w.heap.size, 3, none⟩) bl0).trans bx0_3
  replace bl0 := Nat.lt_of_lt_of_le bl0 hb5.size
  replace o_s0 := o_s0.below hb5 o_s0.lt
  replace o_s1 := o_s1.below hb5 o_s1.lt
  go_wp2_with fail
  refine (toRecord_any _ _ _ _ _ a0.evs _ ((hl0.below h5).more h5.size) hn0).mono ?_
  rintro e w6 ⟨g_x0, gl_x0, rfl, o_x0, hb6⟩
  have h6 := blw h5 hb6
  have z6 := hb6.size
  replace bx0_0 : w6.cell? ⟨w.heap.size, 0, none⟩ = some (.int .i64 a0.id) := (hb6.cell (p := ⟨w.heap.size, 0, none⟩) bl0).trans bx0_0
  replace bx0_1 : w6.cell? ⟨w.heap.size, 1, none⟩ = some (.int .i64 a0.series) := (hb6.cell (p := ⟨w.heap.size, 1, none⟩) bl0).trans bx0_1
  replace bx0_2 : w6.cell? ⟨w.heap.size, 2, none⟩ = some (.int .i64 a0.made) := (hb6.cell (p := ⟨w.heap.size, 2, none⟩) bl0).trans bx0_2
  replace bx0_3 : w6.cell? ⟨w.heap.size, 3, none⟩ = some (.slice a0.A a0.evs.length a0.c) := (hb6.cell (p := ⟨w.heap.size, 3, none⟩) bl0).trans bx0_3
  replace bl0 := Nat.lt_of_lt_of_le bl0 hb6.size
  have y_x0 := o_x0.lt
  go_wp2_with fail
  have hbA1 : Below w6.heap.size w6 (w6.alloc (.cells #[.int .i64 a0.id, .int .i64 a0.series, .int .i64 a0.made, .slice (some ⟨g_x0, 0, none⟩) a0.evs.length a0.evs.length] 30)) := (Below.refl _ _).alloc (Nat.le_refl _) _
  have xb0_0 : (w6.alloc (.cells #[.int .i64 a0.id, .int .i64 a0.series, .int .i64 a0.made, .slice (some ⟨g_x0, 0, none⟩) a0.evs.length a0.evs.length] 30)).cell? ⟨w6.heap.size, 0, none⟩ = some (.int .i64 a0.id) := by simp
  have xb0_1 : (w6.alloc (.cells #[.int .i64 a0.id, .int .i64 a0.series, .int .i64 a0.made, .slice (some ⟨g_x0, 0, none⟩) a0.evs.length a0.evs.length] 30)).cell? ⟨w6.heap.size, 1, none⟩ = some (.int .i64 a0.series) := by simp
  have xb0_2 : (w6.alloc (.cells #[.int .i64 a0.id, .int .i64 a0.series, .int .i64 a0.made, .slice (some ⟨g_x0, 0, none⟩) a0.evs.length a0.evs.length] 30)).cell? ⟨w6.heap.size, 2, none⟩ = some (.int .i64 a0.made) := by simp
  have xb0_3 : (w6.alloc (.cells #[.int .i64 a0.id, .int .i64 a0.series, .int .i64 a0.made, .slice (some ⟨g_x0, 0, none⟩) a0.evs.length a0.evs.length] 30)).cell? ⟨w6.heap.size, 3, none⟩ = some (.slice (some ⟨g_x0, 0, none⟩) a0.evs.length a0.evs.length) := by simp
  have xb0l : w6.heap.size < (w6.alloc (.cells #[.int .i64 a0.id, .int .i64 a0.series, .int .i64 a0.made, .slice (some ⟨g_x0, 0, none⟩) a0.evs.length a0.evs.length] 30)).heap.size := by simp
  have xb0z : w.heap.size ≤ w6.heap.size := h6.size
  generalize (w6.alloc (.cells #[.int .i64 a0.id, .int .i64 a0.series, .int .i64 a0.made, .slice (some ⟨g_x0, 0, none⟩) a0.evs.length a0.evs.length] 30)) = wA1 at *
  have hA1 := blw h6 hbA1
  have zA1 := hbA1.size
  replace bx0_0 : wA1.cell? ⟨w.heap.size, 0, none⟩ = some (.int .i64 a0.id) := (hbA1.cell (p := ⟨w.heap.size, 0, none⟩) bl0).trans bx0_0
  replace bx0_1 : wA1.cell? ⟨w.heap.size, 1, none⟩ = some (.int .i64 a0.series) := (hbA1.cell (p := ⟨w.heap.size, 1, none⟩) bl0).trans bx0_1
  replace bx0_2 : wA1.cell? ⟨w.heap.size, 2, none⟩ = some (.int .i64 a0.made) := (hbA1.cell (p := ⟨w.heap.size, 2, none⟩) bl0).trans bx0_2
  replace bx0_3 : wA1.cell? ⟨w.heap.size, 3, none⟩ = some (.slice a0.A a0.evs.length a0.c) := (hbA1.cell (p := ⟨w.heap.size, 3, none⟩) bl0).trans bx0_3
  replace bl0 := Nat.lt_of_lt_of_le bl0 hbA1.size
  replace o_x0 := o_x0.below hbA1 o_x0.lt
  refine (toRuleS_any _ _ a1 _ ((hl1.below hA1).more hA1.size) hn1).mono ?_
  rintro e w7 ⟨g_x1, gl_x1, rfl, o_x1, hb7⟩
  have h7 := blw hA1 hb7
  have z7 := hb7.size
  replace bx0_0 : w7.cell? ⟨w.heap.size, 0, none⟩ = some (.int .i64 a0.id) := (hb7.cell (p := ⟨w.heap.size, 0, none⟩) bl0).trans bx0_0
  replace bx0_1 : w7.cell? ⟨w.heap.size, 1, none⟩ = some (.int .i64 a0.series) := (hb7.cell (p := ⟨w.heap.size, 1, none⟩) bl0).trans bx0_1
  replace bx0_2 : w7.cell? ⟨w.heap.size, 2, none⟩ = some (.int .i64 a0.made) := (hb7.cell (p := ⟨w.heap.size, 2, none⟩) bl0).trans bx0_2
  replace bx0_3 : w7.cell? ⟨w.heap.size, 3, none⟩ = some (.slice a0.A a0.evs.length a0.c) := (hb7.cell (p := ⟨w.heap.size, 3, none⟩) bl0).trans bx0_3
  replace bl0 := Nat.lt_of_lt_of_le bl0 hb7.size
  replace xb0_0 : w7.cell? ⟨w6.heap.size, 0, none⟩ = some (.int .i64 a0.id) := (hb7.cell (p := ⟨w6.heap.size, 0, none⟩) xb0l).trans xb0_0
  replace xb0_1 : w7.cell? ⟨w6.heap.size, 1, none⟩ = some (.int .i64 a0.series) := (hb7.cell (p := ⟨w6.heap.size, 1, none⟩) xb0l).trans xb0_1
  replace xb0_2 : w7.cell? ⟨w6.heap.size, 2, none⟩ = some (.int .i64 a0.made) := (hb7.cell (p := ⟨w6.heap.size, 2, none⟩) xb0l).trans xb0_2
  replace xb0_3 : w7.cell? ⟨w6.heap.size, 3, none⟩ = some (.slice (some ⟨g_x0, 0, none⟩) a0.evs.length a0.evs.length) := (hb7.cell (p := ⟨w6.heap.size, 3, none⟩) xb0l).trans xb0_3
  replace xb0l := Nat.lt_of_lt_of_le xb0l hb7.size
  replace o_x0 := o_x0.below hb7 o_x0.lt
  have y_x1 := o_x1.lt
  go_wp2_with fail
  refine (c_impl_DueDay _ _ _ _ _ a0.evs _ _ a1 _ (o_x0.ls encEv_len) hn0 (o_x1.ls encRule_len) hn1).mono ?_
  rintro e w8 ⟨rfl, hb8⟩
  have h8 := blw h7 hb8
  have z8 := hb8.size
  replace bx0_0 : w8.cell? ⟨w.heap.size, 0, none⟩ = some (.int .i64 a0.id) := (hb8.cell (p := ⟨w.heap.size, 0, none⟩) bl0).trans bx0_0
  replace bx0_1 : w8.cell? ⟨w.heap.size, 1, none⟩ = some (.int .i64 a0.series) := (hb8.cell (p := ⟨w.heap.size, 1, none⟩) bl0).trans bx0_1
  replace bx0_2 : w8.cell? ⟨w.heap.size, 2, none⟩ = some (.int .i64 a0.made) := (hb8.cell (p := ⟨w.heap.size, 2, none⟩) bl0).trans bx0_2
  replace bx0_3 : w8.cell? ⟨w.heap.size, 3, none⟩ = some (.slice a0.A a0.evs.length a0.c) := (hb8.cell (p := ⟨w.heap.size, 3, none⟩) bl0).trans bx0_3
  replace bl0 := Nat.lt_of_lt_of_le bl0 hb8.size
  replace xb0_0 : w8.cell? ⟨w6.heap.size, 0, none⟩ = some (.int .i64 a0.id) := (hb8.cell (p := ⟨w6.heap.size, 0, none⟩) xb0l).trans xb0_0
  replace xb0_1 : w8.cell? ⟨w6.heap.size, 1, none⟩ = some (.int .i64 a0.series) := (hb8.cell (p := ⟨w6.heap.size, 1, none⟩) xb0l).trans xb0_1
  replace xb0_2 : w8.cell? ⟨w6.heap.size, 2, none⟩ = some (.int .i64 a0.made) := (hb8.cell (p := ⟨w6.heap.size, 2, none⟩) xb0l).trans xb0_2
  replace xb0_3 : w8.cell? ⟨w6.heap.size, 3, none⟩ = some (.slice (some ⟨g_x0, 0, none⟩) a0.evs.length a0.evs.length) := (hb8.cell (p := ⟨w6.heap.size, 3, none⟩) xb0l).trans xb0_3
  replace xb0l := Nat.lt_of_lt_of_le xb0l hb8.size
  replace o_x0 := o_x0.below hb8 o_x0.lt
  replace o_x1 := o_x1.below hb8 o_x1.lt
  go_wp2_with fail
  have hk0 : Hid (∀ W, Below w8.heap.size w8 W → W.cell? ⟨w6.heap.size, 0, none⟩ = some (.int .i64 a0.id) ∧ W.cell? ⟨w6.heap.size, 1, none⟩ = some (.int .i64 a0.series) ∧ W.cell? ⟨w6.heap.size, 2, none⟩ = some (.int .i64 a0.made) ∧ W.cell? ⟨w6.heap.size, 3, none⟩ = some (.slice (some ⟨g_x0, 0, none⟩) a0.evs.length a0.evs.length) ∧ W.cell? ⟨w.heap.size, 0, none⟩ = some (.int .i64 a0.id) ∧ W.cell? ⟨w.heap.size, 1, none⟩ = some (.int .i64 a0.series) ∧ W.cell? ⟨w.heap.size, 2, none⟩ = some (.int .i64 a0.made) ∧ W.cell? ⟨w.heap.size, 3, none⟩ = some (.slice a0.A a0.evs.length a0.c)) := fun W hb => ⟨(hb.cell (p := ⟨_, _, _⟩) xb0l).trans xb0_0, (hb.cell (p := ⟨_, _, _⟩) xb0l).trans xb0_1, (hb.cell (p := ⟨_, _, _⟩) xb0l).trans xb0_2, (hb.cell (p := ⟨_, _, _⟩) xb0l).trans xb0_3, (hb.cell (p := ⟨_, _, _⟩) bl0).trans bx0_0, (hb.cell (p := ⟨_, _, _⟩) bl0).trans bx0_1, (hb.cell (p := ⟨_, _, _⟩) bl0).trans bx0_2, (hb.cell (p := ⟨_, _, _⟩) bl0).trans bx0_3⟩
  have o_d0 : Own w8.drew g_x0 49 encEv 2 a0.evs := o_x0
  go_region_held3 (fun W => W.cell? ⟨w6.heap.size, 0, none⟩ = some (.int .i64 a0.id) ∧ W.cell? ⟨w6.heap.size, 1, none⟩ = some (.int .i64 a0.series) ∧ W.cell? ⟨w6.heap.size, 2, none⟩ = some (.int .i64 a0.made) ∧ W.cell? ⟨w6.heap.size, 3, none⟩ = some (.slice (some ⟨g_x0, 0, none⟩) a0.evs.length a0.evs.length) ∧ W.cell? ⟨w.heap.size, 0, none⟩ = some (.int .i64 a0.id) ∧ W.cell? ⟨w.heap.size, 1, none⟩ = some (.int .i64 a0.series) ∧ W.cell? ⟨w.heap.size, 2, none⟩ = some (.int .i64 a0.made) ∧ W.cell? ⟨w.heap.size, 3, none⟩ = some (.slice a0.A a0.evs.length a0.c))
    (first | exact hk0.out _ (Below.refl _ w8).drew | exact hk0.out _ ((Below.refl _ w8).drew.trans hb9) | exact hk0.out _ (blw ((Below.refl _ w8).drew.trans hb9) hb10))
    (first | (go_at_call 15; refine (toRecord_any _ _ _ _ _ a0.evs _ ((hl0.below h8.drew).more h8.size) hn0).mono ?_; rintro e w9 ⟨g_t0, gl_t0, rfl, o_t0, hb9⟩) | (go_at_call 17; refine (eqRecord_any _ _ _ _ _ _ _ a0.evs _ ((o_d0.below hb9 o_d0.lt).ls encEv_len) (o_t0.ls encEv_len) (by omega)).mono ?_; rintro e w10 ⟨rfl, hb10⟩))
  have hb910 : Below w8.heap.size w8 w10 := blw ((Below.refl _ w8).drew.trans hb9) hb10
  clear o_d0 hk0
  have h10 := blw h8 hb910
  have z10 := hb910.size
  replace bx0_0 : w10.cell? ⟨w.heap.size, 0, none⟩ = some (.int .i64 a0.id) := (hb910.cell (p := ⟨w.heap.size, 0, none⟩) bl0).trans bx0_0
  replace bx0_1 : w10.cell? ⟨w.heap.size, 1, none⟩ = some (.int .i64 a0.series) := (hb910.cell (p := ⟨w.heap.size, 1, none⟩) bl0).trans bx0_1
  replace bx0_2 : w10.cell? ⟨w.heap.size, 2, none⟩ = some (.int .i64 a0.made) := (hb910.cell (p := ⟨w.heap.size, 2, none⟩) bl0).trans bx0_2
  replace bx0_3 : w10.cell? ⟨w.heap.size, 3, none⟩ = some (.slice a0.A a0.evs.length a0.c) := (hb910.cell (p := ⟨w.heap.size, 3, none⟩) bl0).trans bx0_3
  replace bl0 := Nat.lt_of_lt_of_le bl0 hb910.size
  replace xb0_0 : w10.cell? ⟨w6.heap.size, 0, none⟩ = some (.int .i64 a0.id) := (hb910.cell (p := ⟨w6.heap.size, 0, none⟩) xb0l).trans xb0_0
  replace xb0_1 : w10.cell? ⟨w6.heap.size, 1, none⟩ = some (.int .i64 a0.series) := (hb910.cell (p := ⟨w6.heap.size, 1, none⟩) xb0l).trans xb0_1
  replace xb0_2 : w10.cell? ⟨w6.heap.size, 2, none⟩ = some (.int .i64 a0.made) := (hb910.cell (p := ⟨w6.heap.size, 2, none⟩) xb0l).trans xb0_2
  replace xb0_3 : w10.cell? ⟨w6.heap.size, 3, none⟩ = some (.slice (some ⟨g_x0, 0, none⟩) a0.evs.length a0.evs.length) := (hb910.cell (p := ⟨w6.heap.size, 3, none⟩) xb0l).trans xb0_3
  replace xb0l := Nat.lt_of_lt_of_le xb0l hb910.size
  replace o_x0 := o_x0.below hb910 o_x0.lt
  replace o_x1 := o_x1.below hb910 o_x1.lt
  go_wp2_with fail
  refine (toRuleS_any _ _ a1 _ ((hl1.below h10).more h10.size) hn1).mono ?_
  rintro e w11 ⟨g_t1, gl_t1, rfl, o_t1, hb11⟩
  have h11 := blw h10 hb11
  have z11 := hb11.size
  replace bx0_0 : w11.cell? ⟨w.heap.size, 0, none⟩ = some (.int .i64 a0.id) := (hb11.cell (p := ⟨w.heap.size, 0, none⟩) bl0).trans bx0_0
  replace bx0_1 : w11.cell? ⟨w.heap.size, 1, none⟩ = some (.int .i64 a0.series) := (hb11.cell (p := ⟨w.heap.size, 1, none⟩) bl0).trans bx0_1
  replace bx0_2 : w11.cell? ⟨w.heap.size, 2, none⟩ = some (.int .i64 a0.made) := (hb11.cell (p := ⟨w.heap.size, 2, none⟩) bl0).trans bx0_2
  replace bx0_3 : w11.cell? ⟨w.heap.size, 3, none⟩ = some (.slice a0.A a0.evs.length a0.c) := (hb11.cell (p := ⟨w.heap.size, 3, none⟩) bl0).trans bx0_3
  replace bl0 := Nat.lt_of_lt_of_le bl0 hb11.size
  replace xb0_0 : w11.cell? ⟨w6.heap.size, 0, none⟩ = some (.int .i64 a0.id) := (hb11.cell (p := ⟨w6.heap.size, 0, none⟩) xb0l).trans xb0_0
  replace xb0_1 : w11.cell? ⟨w6.heap.size, 1, none⟩ = some (.int .i64 a0.series) := (hb11.cell (p := ⟨w6.heap.size, 1, none⟩) xb0l).trans xb0_1
  replace xb0_2 : w11.cell? ⟨w6.heap.size, 2, none⟩ = some (.int .i64 a0.made) := (hb11.cell (p := ⟨w6.heap.size, 2, none⟩) xb0l).trans xb0_2
  replace xb0_3 : w11.cell? ⟨w6.heap.size, 3, none⟩ = some (.slice (some ⟨g_x0, 0, none⟩) a0.evs.length a0.evs.length) := (hb11.cell (p := ⟨w6.heap.size, 3, none⟩) xb0l).trans xb0_3
  replace xb0l := Nat.lt_of_lt_of_le xb0l hb11.size
  replace o_x0 := o_x0.below hb11 o_x0.lt
  replace o_x1 := o_x1.below hb11 o_x1.lt
  have y_t1 := o_t1.lt
  go_wp2_with fail
  refine (eqRuleS_any _ _ _ _ a1 _ (o_x1.ls encRule_len) (o_t1.ls encRule_len) (by omega)).mono ?_
  rintro e w12 ⟨rfl, hb12⟩
  have h12 := blw h11 hb12
  have z12 := hb12.size
  replace bx0_0 : w12.cell? ⟨w.heap.size, 0, none⟩ = some (.int .i64 a0.id) := (hb12.cell (p := ⟨w.heap.size, 0, none⟩) bl0).trans bx0_0
  replace bx0_1 : w12.cell? ⟨w.heap.size, 1, none⟩ = some (.int .i64 a0.series) := (hb12.cell (p := ⟨w.heap.size, 1, none⟩) bl0).trans bx0_1
  replace bx0_2 : w12.cell? ⟨w.heap.size, 2, none⟩ = some (.int .i64 a0.made) := (hb12.cell (p := ⟨w.heap.size, 2, none⟩) bl0).trans bx0_2
  replace bx0_3 : w12.cell? ⟨w.heap.size, 3, none⟩ = some (.slice a0.A a0.evs.length a0.c) := (hb12.cell (p := ⟨w.heap.size, 3, none⟩) bl0).trans bx0_3
  replace bl0 := Nat.lt_of_lt_of_le bl0 hb12.size
  replace xb0_0 : w12.cell? ⟨w6.heap.size, 0, none⟩ = some (.int .i64 a0.id) := (hb12.cell (p := ⟨w6.heap.size, 0, none⟩) xb0l).trans xb0_0
  replace xb0_1 : w12.cell? ⟨w6.heap.size, 1, none⟩ = some (.int .i64 a0.series) := (hb12.cell (p := ⟨w6.heap.size, 1, none⟩) xb0l).trans xb0_1
  replace xb0_2 : w12.cell? ⟨w6.heap.size, 2, none⟩ = some (.int .i64 a0.made) := (hb12.cell (p := ⟨w6.heap.size, 2, none⟩) xb0l).trans xb0_2
  replace xb0_3 : w12.cell? ⟨w6.heap.size, 3, none⟩ = some (.slice (some ⟨g_x0, 0, none⟩) a0.evs.length a0.evs.length) := (hb12.cell (p := ⟨w6.heap.size, 3, none⟩) xb0l).trans xb0_3
  replace xb0l := Nat.lt_of_lt_of_le xb0l hb12.size
  replace o_x0 := o_x0.below hb12 o_x0.lt
  replace o_x1 := o_x1.below hb12 o_x1.lt
  replace o_t1 := o_t1.below hb12 o_t1.lt
  go_wp2_with fail
  go_ret
  exact ⟨rfl, h12⟩

end Go.Proofs.Ytjbklopkginegaa
