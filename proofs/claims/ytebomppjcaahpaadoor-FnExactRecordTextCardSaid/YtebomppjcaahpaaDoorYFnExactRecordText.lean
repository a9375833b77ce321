/- The law of RecordText, walked. -/
import Derived.Test.YtebomppjcaahpaaDoorW2t
import Derived.Deep.RegionHeld3
namespace Go.Proofs.YtebomppjcaahpaaDoor
set_option linter.unusedVariables false
set_option linter.unusedSimpArgs false
open Go.RowKit
attribute [local go_sem] Aft.cell

set_option maxHeartbeats 4000000 in
theorem walk_FnExactRecordText (a0 : Rec) (w : World) (ok0 : okRec w a0) (ht : Tab w) :
    Calls Tryd.prog 5 #[.agg #[.int .i64 a0.id, .int .i64 a0.series, .int .i64 a0.made, .slice a0.A a0.evs.length a0.c]] w fun e w' => e = .returned (.bool true) ∧ Below w.heap.size w w' := by
  obtain ⟨hrg0a, hrg0b, hrg0c, hl0, hok0, hmx0⟩ := ok0
  go_enter Tryd.func5, Tryd.ntmps5
  go_wp2_with fail
  have h0 : Below w.heap.size w (w.alloc (.cells #[.int .i64 a0.id, .int .i64 a0.series, .int .i64 a0.made, .slice a0.A a0.evs.length a0.c] 33)) := (blw_alloc (Below.refl w.heap.size w) _)
  have bx0_0 : (w.alloc (.cells #[.int .i64 a0.id, .int .i64 a0.series, .int .i64 a0.made, .slice a0.A a0.evs.length a0.c] 33)).cell? ⟨w.heap.size, 0, none⟩ = some (.int .i64 a0.id) := by simp [World.cell?_alloc_lt]
  have bx0_1 : (w.alloc (.cells #[.int .i64 a0.id, .int .i64 a0.series, .int .i64 a0.made, .slice a0.A a0.evs.length a0.c] 33)).cell? ⟨w.heap.size, 1, none⟩ = some (.int .i64 a0.series) := by simp [World.cell?_alloc_lt]
  have bx0_2 : (w.alloc (.cells #[.int .i64 a0.id, .int .i64 a0.series, .int .i64 a0.made, .slice a0.A a0.evs.length a0.c] 33)).cell? ⟨w.heap.size, 2, none⟩ = some (.int .i64 a0.made) := by simp [World.cell?_alloc_lt]
  have bx0_3 : (w.alloc (.cells #[.int .i64 a0.id, .int .i64 a0.series, .int .i64 a0.made, .slice a0.A a0.evs.length a0.c] 33)).cell? ⟨w.heap.size, 3, none⟩ = some (.slice a0.A a0.evs.length a0.c) := by simp [World.cell?_alloc_lt]
  have bl0 : w.heap.size < (w.alloc (.cells #[.int .i64 a0.id, .int .i64 a0.series, .int .i64 a0.made, .slice a0.A a0.evs.length a0.c] 33)).heap.size := by simp; try omega
  generalize (w.alloc (.cells #[.int .i64 a0.id, .int .i64 a0.series, .int .i64 a0.made, .slice a0.A a0.evs.length a0.c] 33)) = W0 at *
  have bl0k := bl0
  go_wp2_with fail
  refine (szRecord_sz _ _ _ _ _ _ _ _ hmx0 (by omega) (by omega)).mono ?_
  rintro e w1 ⟨r1, rfl, hra1, hrb1, hrp1, hb1⟩
  have h1 := blw h0 hb1
  have z1 := hb1.size
  replace bx0_0 : w1.cell? ⟨w.heap.size, 0, none⟩ = some (.int .i64 a0.id) := (hb1.cell (p := ⟨w.heap.size, 0, none⟩) bl0).trans bx0_0
  replace bx0_1 : w1.cell? ⟨w.heap.size, 1, none⟩ = some (.int .i64 a0.series) := (hb1.cell (p := ⟨w.heap.size, 1, none⟩) bl0).trans bx0_1
  replace bx0_2 : w1.cell? ⟨w.heap.size, 2, none⟩ = some (.int .i64 a0.made) := (hb1.cell (p := ⟨w.heap.size, 2, none⟩) bl0).trans bx0_2
  replace bx0_3 : w1.cell? ⟨w.heap.size, 3, none⟩ = some (.slice a0.A a0.evs.length a0.c) := (hb1.cell (p := ⟨w.heap.size, 3, none⟩) bl0).trans bx0_3
  replace bl0 := Nat.lt_of_lt_of_le bl0 hb1.size
  by_cases hneg1 : r1 < 0
  · clear hrp1
    go_wp2_with fail
    go_ret
    exact ⟨rfl, h1⟩
  have hn0 := hrp1 (by omega)
  clear hrp1
  have hnn1 : ¬ r1 < 0 := hneg1
  go_wp2_with fail
  refine (toRecord_any _ _ _ _ _ a0.evs _ ((hl0.below h1).more h1.size) hn0).mono ?_
  rintro e w2 ⟨g_s0, gl_s0, rfl, o_s0, hb2⟩
  have h2 := blw h1 hb2
  have z2 := hb2.size
  replace bx0_0 : w2.cell? ⟨w.heap.size, 0, none⟩ = some (.int .i64 a0.id) := (hb2.cell (p := ⟨w.heap.size, 0, none⟩) bl0).trans bx0_0
  replace bx0_1 : w2.cell? ⟨w.heap.size, 1, none⟩ = some (.int .i64 a0.series) := (hb2.cell (p := ⟨w.heap.size, 1, none⟩) bl0).trans bx0_1
  replace bx0_2 : w2.cell? ⟨w.heap.size, 2, none⟩ = some (.int .i64 a0.made) := (hb2.cell (p := ⟨w.heap.size, 2, none⟩) bl0).trans bx0_2
  replace bx0_3 : w2.cell? ⟨w.heap.size, 3, none⟩ = some (.slice a0.A a0.evs.length a0.c) := (hb2.cell (p := ⟨w.heap.size, 3, none⟩) bl0).trans bx0_3
  replace bl0 := Nat.lt_of_lt_of_le bl0 hb2.size
  have y_s0 := o_s0.lt
  go_wp2_with fail
  refine (c_spec_RecordText _ _ _ _ _ a0.evs _ (o_s0.ls encEv_len) hn0).mono ?_
  rintro e w3 ⟨rfl, hb3⟩
  have h3 := blw h2 hb3
  have z3 := hb3.size
  replace bx0_0 : w3.cell? ⟨w.heap.size, 0, none⟩ = some (.int .i64 a0.id) := (hb3.cell (p := ⟨w.heap.size, 0, none⟩) bl0).trans bx0_0
  replace bx0_1 : w3.cell? ⟨w.heap.size, 1, none⟩ = some (.int .i64 a0.series) := (hb3.cell (p := ⟨w.heap.size, 1, none⟩) bl0).trans bx0_1
  replace bx0_2 : w3.cell? ⟨w.heap.size, 2, none⟩ = some (.int .i64 a0.made) := (hb3.cell (p := ⟨w.heap.size, 2, none⟩) bl0).trans bx0_2
  replace bx0_3 : w3.cell? ⟨w.heap.size, 3, none⟩ = some (.slice a0.A a0.evs.length a0.c) := (hb3.cell (p := ⟨w.heap.size, 3, none⟩) bl0).trans bx0_3
  replace bl0 := Nat.lt_of_lt_of_le bl0 hb3.size
  replace o_s0 := o_s0.below hb3 o_s0.lt
  go_wp2_with fail
  refine (toRecord_any _ _ _ _ _ a0.evs _ ((hl0.below h3).more h3.size) hn0).mono ?_
  rintro e w4 ⟨g_x0, gl_x0, rfl, o_x0, hb4⟩
  have h4 := blw h3 hb4
  have z4 := hb4.size
  replace bx0_0 : w4.cell? ⟨w.heap.size, 0, none⟩ = some (.int .i64 a0.id) := (hb4.cell (p := ⟨w.heap.size, 0, none⟩) bl0).trans bx0_0
  replace bx0_1 : w4.cell? ⟨w.heap.size, 1, none⟩ = some (.int .i64 a0.series) := (hb4.cell (p := ⟨w.heap.size, 1, none⟩) bl0).trans bx0_1
  replace bx0_2 : w4.cell? ⟨w.heap.size, 2, none⟩ = some (.int .i64 a0.made) := (hb4.cell (p := ⟨w.heap.size, 2, none⟩) bl0).trans bx0_2
  replace bx0_3 : w4.cell? ⟨w.heap.size, 3, none⟩ = some (.slice a0.A a0.evs.length a0.c) := (hb4.cell (p := ⟨w.heap.size, 3, none⟩) bl0).trans bx0_3
  replace bl0 := Nat.lt_of_lt_of_le bl0 hb4.size
  have y_x0 := o_x0.lt
  go_wp2_with fail
  have hbA1 : Below w4.heap.size w4 (w4.alloc (.cells #[.int .i64 a0.id, .int .i64 a0.series, .int .i64 a0.made, .slice (some ⟨g_x0, 0, none⟩) a0.evs.length a0.evs.length] 38)) := (Below.refl _ _).alloc (Nat.le_refl _) _
  have xb0_0 : (w4.alloc (.cells #[.int .i64 a0.id, .int .i64 a0.series, .int .i64 a0.made, .slice (some ⟨g_x0, 0, none⟩) a0.evs.length a0.evs.length] 38)).cell? ⟨w4.heap.size, 0, none⟩ = some (.int .i64 a0.id) := by simp
  have xb0_1 : (w4.alloc (.cells #[.int .i64 a0.id, .int .i64 a0.series, .int .i64 a0.made, .slice (some ⟨g_x0, 0, none⟩) a0.evs.length a0.evs.length] 38)).cell? ⟨w4.heap.size, 1, none⟩ = some (.int .i64 a0.series) := by simp
  have xb0_2 : (w4.alloc (.cells #[.int .i64 a0.id, .int .i64 a0.series, .int .i64 a0.made, .slice (some ⟨g_x0, 0, none⟩) a0.evs.length a0.evs.length] 38)).cell? ⟨w4.heap.size, 2, none⟩ = some (.int .i64 a0.made) := by simp
  have xb0_3 : (w4.alloc (.cells #[.int .i64 a0.id, .int .i64 a0.series, .int .i64 a0.made, .slice (some ⟨g_x0, 0, none⟩) a0.evs.length a0.evs.length] 38)).cell? ⟨w4.heap.size, 3, none⟩ = some (.slice (some ⟨g_x0, 0, none⟩) a0.evs.length a0.evs.length) := by simp
  have xb0l : w4.heap.size < (w4.alloc (.cells #[.int .i64 a0.id, .int .i64 a0.series, .int .i64 a0.made, .slice (some ⟨g_x0, 0, none⟩) a0.evs.length a0.evs.length] 38)).heap.size := by simp
  have xb0z : w.heap.size ≤ w4.heap.size := h4.size
  generalize (w4.alloc (.cells #[.int .i64 a0.id, .int .i64 a0.series, .int .i64 a0.made, .slice (some ⟨g_x0, 0, none⟩) a0.evs.length a0.evs.length] 38)) = wA1 at *
  have xb0lk := xb0l
  have hA1 := blw h4 hbA1
  have zA1 := hbA1.size
  replace bx0_0 : wA1.cell? ⟨w.heap.size, 0, none⟩ = some (.int .i64 a0.id) := (hbA1.cell (p := ⟨w.heap.size, 0, none⟩) bl0).trans bx0_0
  replace bx0_1 : wA1.cell? ⟨w.heap.size, 1, none⟩ = some (.int .i64 a0.series) := (hbA1.cell (p := ⟨w.heap.size, 1, none⟩) bl0).trans bx0_1
  replace bx0_2 : wA1.cell? ⟨w.heap.size, 2, none⟩ = some (.int .i64 a0.made) := (hbA1.cell (p := ⟨w.heap.size, 2, none⟩) bl0).trans bx0_2
  replace bx0_3 : wA1.cell? ⟨w.heap.size, 3, none⟩ = some (.slice a0.A a0.evs.length a0.c) := (hbA1.cell (p := ⟨w.heap.size, 3, none⟩) bl0).trans bx0_3
  replace bl0 := Nat.lt_of_lt_of_le bl0 hbA1.size
  replace o_x0 := o_x0.below hbA1 o_x0.lt
  refine (c_impl_RecordText _ _ _ _ _ a0.evs _ (o_x0.ls encEv_len) hn0 (tab_below ht hA1)).mono ?_
  rintro e w5 ⟨rfl, hb5⟩
  have h5 := blw hA1 hb5
  have z5 := hb5.size
  replace bx0_0 : w5.cell? ⟨w.heap.size, 0, none⟩ = some (.int .i64 a0.id) := (hb5.cell (p := ⟨w.heap.size, 0, none⟩) bl0).trans bx0_0
  replace bx0_1 : w5.cell? ⟨w.heap.size, 1, none⟩ = some (.int .i64 a0.series) := (hb5.cell (p := ⟨w.heap.size, 1, none⟩) bl0).trans bx0_1
  replace bx0_2 : w5.cell? ⟨w.heap.size, 2, none⟩ = some (.int .i64 a0.made) := (hb5.cell (p := ⟨w.heap.size, 2, none⟩) bl0).trans bx0_2
  replace bx0_3 : w5.cell? ⟨w.heap.size, 3, none⟩ = some (.slice a0.A a0.evs.length a0.c) := (hb5.cell (p := ⟨w.heap.size, 3, none⟩) bl0).trans bx0_3
  replace bl0 := Nat.lt_of_lt_of_le bl0 hb5.size
  replace xb0_0 : w5.cell? ⟨w4.heap.size, 0, none⟩ = some (.int .i64 a0.id) := (hb5.cell (p := ⟨w4.heap.size, 0, none⟩) xb0l).trans xb0_0
  replace xb0_1 : w5.cell? ⟨w4.heap.size, 1, none⟩ = some (.int .i64 a0.series) := (hb5.cell (p := ⟨w4.heap.size, 1, none⟩) xb0l).trans xb0_1
  replace xb0_2 : w5.cell? ⟨w4.heap.size, 2, none⟩ = some (.int .i64 a0.made) := (hb5.cell (p := ⟨w4.heap.size, 2, none⟩) xb0l).trans xb0_2
  replace xb0_3 : w5.cell? ⟨w4.heap.size, 3, none⟩ = some (.slice (some ⟨g_x0, 0, none⟩) a0.evs.length a0.evs.length) := (hb5.cell (p := ⟨w4.heap.size, 3, none⟩) xb0l).trans xb0_3
  replace xb0l := Nat.lt_of_lt_of_le xb0l hb5.size
  replace o_x0 := o_x0.below hb5 o_x0.lt
  go_wp2_with fail
  have hk0 : Hid (∀ W, Below w5.heap.size w5 W → W.cell? ⟨w4.heap.size, 0, none⟩ = some (.int .i64 a0.id) ∧ W.cell? ⟨w4.heap.size, 1, none⟩ = some (.int .i64 a0.series) ∧ W.cell? ⟨w4.heap.size, 2, none⟩ = some (.int .i64 a0.made) ∧ W.cell? ⟨w4.heap.size, 3, none⟩ = some (.slice (some ⟨g_x0, 0, none⟩) a0.evs.length a0.evs.length) ∧ W.cell? ⟨w.heap.size, 0, none⟩ = some (.int .i64 a0.id) ∧ W.cell? ⟨w.heap.size, 1, none⟩ = some (.int .i64 a0.series) ∧ W.cell? ⟨w.heap.size, 2, none⟩ = some (.int .i64 a0.made) ∧ W.cell? ⟨w.heap.size, 3, none⟩ = some (.slice a0.A a0.evs.length a0.c)) := fun W hb => ⟨(hb.cell (p := ⟨_, _, _⟩) xb0l).trans xb0_0, (hb.cell (p := ⟨_, _, _⟩) xb0l).trans xb0_1, (hb.cell (p := ⟨_, _, _⟩) xb0l).trans xb0_2, (hb.cell (p := ⟨_, _, _⟩) xb0l).trans xb0_3, (hb.cell (p := ⟨_, _, _⟩) bl0).trans bx0_0, (hb.cell (p := ⟨_, _, _⟩) bl0).trans bx0_1, (hb.cell (p := ⟨_, _, _⟩) bl0).trans bx0_2, (hb.cell (p := ⟨_, _, _⟩) bl0).trans bx0_3⟩
  have o_d0 : Own w5.drew g_x0 85 encEv 2 a0.evs := o_x0
  go_region_held3 (fun W => W.cell? ⟨w4.heap.size, 0, none⟩ = some (.int .i64 a0.id) ∧ W.cell? ⟨w4.heap.size, 1, none⟩ = some (.int .i64 a0.series) ∧ W.cell? ⟨w4.heap.size, 2, none⟩ = some (.int .i64 a0.made) ∧ W.cell? ⟨w4.heap.size, 3, none⟩ = some (.slice (some ⟨g_x0, 0, none⟩) a0.evs.length a0.evs.length) ∧ W.cell? ⟨w.heap.size, 0, none⟩ = some (.int .i64 a0.id) ∧ W.cell? ⟨w.heap.size, 1, none⟩ = some (.int .i64 a0.series) ∧ W.cell? ⟨w.heap.size, 2, none⟩ = some (.int .i64 a0.made) ∧ W.cell? ⟨w.heap.size, 3, none⟩ = some (.slice a0.A a0.evs.length a0.c))
    (first | exact hk0.out _ (Below.refl _ w5).drew | exact hk0.out _ ((Below.refl _ w5).drew.trans hb6) | exact hk0.out _ (blw ((Below.refl _ w5).drew.trans hb6) hb7))
    (first | (go_at_call 21; refine (toRecord_any _ _ _ _ _ a0.evs _ ((hl0.below h5.drew).more h5.size) hn0).mono ?_; rintro e w6 ⟨g_t0, gl_t0, rfl, o_t0, hb6⟩) | (go_at_call 23; refine (eqRecord_any _ _ _ _ _ _ _ a0.evs _ ((o_d0.below hb6 o_d0.lt).ls encEv_len) (o_t0.ls encEv_len) (by omega)).mono ?_; rintro e w7 ⟨rfl, hb7⟩))
  have hb67 : Below w5.heap.size w5 w7 := blw ((Below.refl _ w5).drew.trans hb6) hb7
  clear o_d0 hk0
  have h7 := blw h5 hb67
  have z7 := hb67.size
  replace bx0_0 : w7.cell? ⟨w.heap.size, 0, none⟩ = some (.int .i64 a0.id) := (hb67.cell (p := ⟨w.heap.size, 0, none⟩) bl0).trans bx0_0
  replace bx0_1 : w7.cell? ⟨w.heap.size, 1, none⟩ = some (.int .i64 a0.series) := (hb67.cell (p := ⟨w.heap.size, 1, none⟩) bl0).trans bx0_1
  replace bx0_2 : w7.cell? ⟨w.heap.size, 2, none⟩ = some (.int .i64 a0.made) := (hb67.cell (p := ⟨w.heap.size, 2, none⟩) bl0).trans bx0_2
  replace bx0_3 : w7.cell? ⟨w.heap.size, 3, none⟩ = some (.slice a0.A a0.evs.length a0.c) := (hb67.cell (p := ⟨w.heap.size, 3, none⟩) bl0).trans bx0_3
  replace bl0 := Nat.lt_of_lt_of_le bl0 hb67.size
  replace xb0_0 : w7.cell? ⟨w4.heap.size, 0, none⟩ = some (.int .i64 a0.id) := (hb67.cell (p := ⟨w4.heap.size, 0, none⟩) xb0l).trans xb0_0
  replace xb0_1 : w7.cell? ⟨w4.heap.size, 1, none⟩ = some (.int .i64 a0.series) := (hb67.cell (p := ⟨w4.heap.size, 1, none⟩) xb0l).trans xb0_1
  replace xb0_2 : w7.cell? ⟨w4.heap.size, 2, none⟩ = some (.int .i64 a0.made) := (hb67.cell (p := ⟨w4.heap.size, 2, none⟩) xb0l).trans xb0_2
  replace xb0_3 : w7.cell? ⟨w4.heap.size, 3, none⟩ = some (.slice (some ⟨g_x0, 0, none⟩) a0.evs.length a0.evs.length) := (hb67.cell (p := ⟨w4.heap.size, 3, none⟩) xb0l).trans xb0_3
  replace xb0l := Nat.lt_of_lt_of_le xb0l hb67.size
  replace o_x0 := o_x0.below hb67 o_x0.lt
  go_wp2_with fail
  go_ret
  exact ⟨rfl, h7⟩

end Go.Proofs.YtebomppjcaahpaaDoor
