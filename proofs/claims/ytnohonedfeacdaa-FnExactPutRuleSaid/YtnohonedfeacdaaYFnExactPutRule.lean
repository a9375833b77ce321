/- The law of PutRule, walked. -/
import Derived.Test.YtnohonedfeacdaaW4r
import Derived.Deep.RegionHeld3
namespace Go.Proofs.Ytnohonedfeacdaa
set_option linter.unusedVariables false
set_option linter.unusedSimpArgs false
open Go.RowKit
attribute [local go_sem] Aft.cell

set_option maxHeartbeats 4000000 in
theorem walk_FnExactPutRule (A0 : Option Addr) (c0 : Nat) (a0 : List RuleD) (a1 : RuleD) (w : World) (ok0 : okSl w encRule 4 okRule A0 a0) (ok1 : okRule a1) :
    Calls Try.prog 4 #[.slice A0 a0.length c0, .agg #[.int .i64 a1.s, .int .i64 a1.e, .int .i64 a1.d, .int .i64 a1.a]] w fun e w' => e = .returned (.bool true) ∧ Below w.heap.size w w' := by
  obtain ⟨hl0, hok0, hmx0⟩ := ok0
  go_enter Try.func4, Try.ntmps4
  go_wp2_with fail
  have h0 : Below w.heap.size w (w.alloc (.cells #[.int .i64 a1.s, .int .i64 a1.e, .int .i64 a1.d, .int .i64 a1.a] 41)) := (blw_alloc (Below.refl w.heap.size w) _)
  have bx1_0 : (w.alloc (.cells #[.int .i64 a1.s, .int .i64 a1.e, .int .i64 a1.d, .int .i64 a1.a] 41)).cell? ⟨w.heap.size, 0, none⟩ = some (.int .i64 a1.s) := by simp [World.cell?_alloc_lt]
  have bx1_1 : (w.alloc (.cells #[.int .i64 a1.s, .int .i64 a1.e, .int .i64 a1.d, .int .i64 a1.a] 41)).cell? ⟨w.heap.size, 1, none⟩ = some (.int .i64 a1.e) := by simp [World.cell?_alloc_lt]
  have bx1_2 : (w.alloc (.cells #[.int .i64 a1.s, .int .i64 a1.e, .int .i64 a1.d, .int .i64 a1.a] 41)).cell? ⟨w.heap.size, 2, none⟩ = some (.int .i64 a1.d) := by simp [World.cell?_alloc_lt]
  have bx1_3 : (w.alloc (.cells #[.int .i64 a1.s, .int .i64 a1.e, .int .i64 a1.d, .int .i64 a1.a] 41)).cell? ⟨w.heap.size, 3, none⟩ = some (.int .i64 a1.a) := by simp [World.cell?_alloc_lt]
  have bl1 : w.heap.size < (w.alloc (.cells #[.int .i64 a1.s, .int .i64 a1.e, .int .i64 a1.d, .int .i64 a1.a] 41)).heap.size := by simp; try omega
  generalize (w.alloc (.cells #[.int .i64 a1.s, .int .i64 a1.e, .int .i64 a1.d, .int .i64 a1.a] 41)) = W0 at *
  have bl1k := bl1
  go_wp2_with fail
  refine (szRuleS_sz _ _ _ _ _ hmx0 (by omega) (by omega)).mono ?_
  rintro e w1 ⟨r1, rfl, hra1, hrb1, hrp1, hb1⟩
  have h1 := blw h0 hb1
  have z1 := hb1.size
  replace bx1_0 : w1.cell? ⟨w.heap.size, 0, none⟩ = some (.int .i64 a1.s) := (hb1.cell (p := ⟨w.heap.size, 0, none⟩) bl1).trans bx1_0
  replace bx1_1 : w1.cell? ⟨w.heap.size, 1, none⟩ = some (.int .i64 a1.e) := (hb1.cell (p := ⟨w.heap.size, 1, none⟩) bl1).trans bx1_1
  replace bx1_2 : w1.cell? ⟨w.heap.size, 2, none⟩ = some (.int .i64 a1.d) := (hb1.cell (p := ⟨w.heap.size, 2, none⟩) bl1).trans bx1_2
  replace bx1_3 : w1.cell? ⟨w.heap.size, 3, none⟩ = some (.int .i64 a1.a) := (hb1.cell (p := ⟨w.heap.size, 3, none⟩) bl1).trans bx1_3
  replace bl1 := Nat.lt_of_lt_of_le bl1 hb1.size
  by_cases hneg1 : r1 < 0
  · clear hrp1
    go_wp2_with fail
    go_ret
    exact ⟨rfl, h1⟩
  have hn0 := hrp1 (by omega)
  clear hrp1
  have hnn1 : ¬ r1 < 0 := hneg1
  go_wp2_with fail
  have HK2 : Hid (∀ W, Below w1.heap.size w1 W → Below w1.heap.size w1 W ∧ W.cell? ⟨w.heap.size, 0, none⟩ = some (.int .i64 a1.s) ∧ W.cell? ⟨w.heap.size, 1, none⟩ = some (.int .i64 a1.e) ∧ W.cell? ⟨w.heap.size, 2, none⟩ = some (.int .i64 a1.d) ∧ W.cell? ⟨w.heap.size, 3, none⟩ = some (.int .i64 a1.a)) := fun W hb => ⟨hb, (hb.cell (p := ⟨_, _, _⟩) bl1).trans bx1_0, (hb.cell (p := ⟨_, _, _⟩) bl1).trans bx1_1, (hb.cell (p := ⟨_, _, _⟩) bl1).trans bx1_2, (hb.cell (p := ⟨_, _, _⟩) bl1).trans bx1_3⟩
  have HL2_0 : Hid (∀ W, Below w1.heap.size w1 W → Ls W W.heap.size encRule 4 A0 a0) := fun W hb => ((hl0.below (blw h1 hb)).more (blw h1 hb).size)
  go_region_held3 (fun W => Below w1.heap.size w1 W ∧ W.cell? ⟨w.heap.size, 0, none⟩ = some (.int .i64 a1.s) ∧ W.cell? ⟨w.heap.size, 1, none⟩ = some (.int .i64 a1.e) ∧ W.cell? ⟨w.heap.size, 2, none⟩ = some (.int .i64 a1.d) ∧ W.cell? ⟨w.heap.size, 3, none⟩ = some (.int .i64 a1.a))
    (first | exact HK2.out _ (Below.refl _ w1).drew | exact HK2.out _ (blw (And.left ‹Below w1.heap.size w1 _ ∧ _›) hd0) | exact HK2.out _ (blw (And.left ‹Below w1.heap.size w1 _ ∧ _›) hd1) | exact HK2.out _ (blw (And.left ‹Below w1.heap.size w1 _ ∧ _›) hd_f))
    (first | (go_at_call 15; refine (toRuleS_any _ _ a0 _ (HL2_0.out _ (And.left ‹Below w1.heap.size w1 _ ∧ _›)) hn0).mono ?_; rintro e wd0 ⟨g_s0, gl_s0, rfl, o_s0, hd0⟩) | (go_at_call 16; refine (toRule_v _ _ _ _ _).mono ?_; rintro e wd1 ⟨rfl, hd1⟩) | (go_at_call 14; refine (c4_spec_PutRule _ _ a0 _ _ _ _ _ (by first | exact o_s0.ls encRule_len | exact (o_s0.below hd1 o_s0.lt).ls encRule_len) hn0).mono ?_; rintro e w2 ⟨A_w, C_w, rfl, o_w, hd_f⟩))
  all_goals
    have hb2 : Below w1.heap.size w1 w2 := And.left ‹Below w1.heap.size w1 w2 ∧ _›
    clear HK2 HL2_0
    have h2 := blw h1 hb2
    have z2 := hb2.size
    replace bx1_0 : w2.cell? ⟨w.heap.size, 0, none⟩ = some (.int .i64 a1.s) := (hb2.cell (p := ⟨w.heap.size, 0, none⟩) bl1).trans bx1_0
    replace bx1_1 : w2.cell? ⟨w.heap.size, 1, none⟩ = some (.int .i64 a1.e) := (hb2.cell (p := ⟨w.heap.size, 1, none⟩) bl1).trans bx1_1
    replace bx1_2 : w2.cell? ⟨w.heap.size, 2, none⟩ = some (.int .i64 a1.d) := (hb2.cell (p := ⟨w.heap.size, 2, none⟩) bl1).trans bx1_2
    replace bx1_3 : w2.cell? ⟨w.heap.size, 3, none⟩ = some (.int .i64 a1.a) := (hb2.cell (p := ⟨w.heap.size, 3, none⟩) bl1).trans bx1_3
    replace bl1 := Nat.lt_of_lt_of_le bl1 hb2.size
    replace o_w := o_w.ls encRule_len
    have ble_w : w2.heap.size ≤ w2.heap.size := Nat.le_refl _
    have Bw : ∃ n, n = w2.heap.size := ⟨_, rfl⟩
    obtain ⟨Bw, hBw⟩ := Bw
    rw [← hBw] at o_w
    have ble_w : Bw ≤ w2.heap.size := Nat.le_of_eq hBw
    have bw0 := ble_w
    have HBw := Lib.hid hBw
    clear hBw
    go_wp2_with fail
    refine (toRuleS_any _ _ a0 _ ((hl0.below h2).more h2.size) hn0).mono ?_
    rintro e w3 ⟨g_x0, gl_x0, rfl, o_x0, hb3⟩
    have h3 := blw h2 hb3
    have z3 := hb3.size
    replace bx1_0 : w3.cell? ⟨w.heap.size, 0, none⟩ = some (.int .i64 a1.s) := (hb3.cell (p := ⟨w.heap.size, 0, none⟩) bl1).trans bx1_0
    replace bx1_1 : w3.cell? ⟨w.heap.size, 1, none⟩ = some (.int .i64 a1.e) := (hb3.cell (p := ⟨w.heap.size, 1, none⟩) bl1).trans bx1_1
    replace bx1_2 : w3.cell? ⟨w.heap.size, 2, none⟩ = some (.int .i64 a1.d) := (hb3.cell (p := ⟨w.heap.size, 2, none⟩) bl1).trans bx1_2
    replace bx1_3 : w3.cell? ⟨w.heap.size, 3, none⟩ = some (.int .i64 a1.a) := (hb3.cell (p := ⟨w.heap.size, 3, none⟩) bl1).trans bx1_3
    replace bl1 := Nat.lt_of_lt_of_le bl1 hb3.size
    replace o_w := o_w.below (hb3.mono ble_w)
    replace ble_w := Nat.le_trans ble_w hb3.size
    have y_x0 := o_x0.lt
    have gw_x0 : Bw ≤ g_x0 := Nat.le_trans (by omega) gl_x0
    go_wp2_with fail
    refine (toRule_v _ _ _ _ _).mono ?_
    rintro e w4 ⟨rfl, hb4⟩
    have h4 := blw h3 hb4
    have z4 := hb4.size
    replace bx1_0 : w4.cell? ⟨w.heap.size, 0, none⟩ = some (.int .i64 a1.s) := (hb4.cell (p := ⟨w.heap.size, 0, none⟩) bl1).trans bx1_0
    replace bx1_1 : w4.cell? ⟨w.heap.size, 1, none⟩ = some (.int .i64 a1.e) := (hb4.cell (p := ⟨w.heap.size, 1, none⟩) bl1).trans bx1_1
    replace bx1_2 : w4.cell? ⟨w.heap.size, 2, none⟩ = some (.int .i64 a1.d) := (hb4.cell (p := ⟨w.heap.size, 2, none⟩) bl1).trans bx1_2
    replace bx1_3 : w4.cell? ⟨w.heap.size, 3, none⟩ = some (.int .i64 a1.a) := (hb4.cell (p := ⟨w.heap.size, 3, none⟩) bl1).trans bx1_3
    replace bl1 := Nat.lt_of_lt_of_le bl1 hb4.size
    replace o_w := o_w.below (hb4.mono ble_w)
    replace ble_w := Nat.le_trans ble_w hb4.size
    replace o_x0 := o_x0.below hb4 o_x0.lt
    go_wp2_with fail
    refine (c4_impl_PutRule _ _ a0 _ _ _ _ _ (o_x0.ls encRule_len) hn0).mono ?_
    rintro e w5 ⟨A_g, C_g, rfl, o_g, hb5⟩
    have h5 := blw h4 hb5
    have z5 := hb5.size
    replace bx1_0 : w5.cell? ⟨w.heap.size, 0, none⟩ = some (.int .i64 a1.s) := (hb5.cell (p := ⟨w.heap.size, 0, none⟩) bl1).trans bx1_0
    replace bx1_1 : w5.cell? ⟨w.heap.size, 1, none⟩ = some (.int .i64 a1.e) := (hb5.cell (p := ⟨w.heap.size, 1, none⟩) bl1).trans bx1_1
    replace bx1_2 : w5.cell? ⟨w.heap.size, 2, none⟩ = some (.int .i64 a1.d) := (hb5.cell (p := ⟨w.heap.size, 2, none⟩) bl1).trans bx1_2
    replace bx1_3 : w5.cell? ⟨w.heap.size, 3, none⟩ = some (.int .i64 a1.a) := (hb5.cell (p := ⟨w.heap.size, 3, none⟩) bl1).trans bx1_3
    replace bl1 := Nat.lt_of_lt_of_le bl1 hb5.size
    replace o_w := o_w.below (hb5.mono ble_w)
    replace ble_w := Nat.le_trans ble_w hb5.size
    replace o_x0 := o_x0.below hb5 o_x0.lt
    have bs_g : ∃ n, n = w4.heap.size := ⟨_, rfl⟩
    have ub_g : ∀ b, blkOf A_g b → b < w5.heap.size := fun b hb => (o_g.block hb).2
    obtain ⟨Bg, hBg⟩ := bs_g
    rw [← hBg] at o_g
    have gg_g : w4.heap.size ≤ Bg := Nat.le_of_eq hBg.symm
    have HBg := Lib.hid hBg
    clear hBg
    have gg_x0 : g_x0 < Bg := by omega
    have gg_bx1 : w.heap.size < Bg := by omega
    have gw_g : w.heap.size ≤ Bg := by have := h5.size; omega
    go_wp2_with fail
    refine (eqRuleS_any _ _ _ _ (putL a0 ⟨a1.s, a1.e, a1.d, a1.a⟩) _ (o_g.ls encRule_len) (o_w.more ble_w) (by have := putL_le8 a0 ⟨a1.s, a1.e, a1.d, a1.a⟩; omega)).mono ?_
    rintro e w6 ⟨rfl, hb6⟩
    have h6 := blw h5 hb6
    have z6 := hb6.size
    replace bx1_0 : w6.cell? ⟨w.heap.size, 0, none⟩ = some (.int .i64 a1.s) := (hb6.cell (p := ⟨w.heap.size, 0, none⟩) bl1).trans bx1_0
    replace bx1_1 : w6.cell? ⟨w.heap.size, 1, none⟩ = some (.int .i64 a1.e) := (hb6.cell (p := ⟨w.heap.size, 1, none⟩) bl1).trans bx1_1
    replace bx1_2 : w6.cell? ⟨w.heap.size, 2, none⟩ = some (.int .i64 a1.d) := (hb6.cell (p := ⟨w.heap.size, 2, none⟩) bl1).trans bx1_2
    replace bx1_3 : w6.cell? ⟨w.heap.size, 3, none⟩ = some (.int .i64 a1.a) := (hb6.cell (p := ⟨w.heap.size, 3, none⟩) bl1).trans bx1_3
    replace bl1 := Nat.lt_of_lt_of_le bl1 hb6.size
    replace o_w := o_w.below (hb6.mono ble_w)
    replace ble_w := Nat.le_trans ble_w hb6.size
    replace o_x0 := o_x0.below hb6 o_x0.lt
    replace o_g := o_g.on hb6
    go_wp2_with fail
    refine (toRuleS_any _ _ a0 _ ((hl0.below h6).more h6.size) hn0).mono ?_
    rintro e w7 ⟨g_t0, gl_t0, rfl, o_t0, hb7⟩
    have h7 := blw h6 hb7
    have z7 := hb7.size
    replace bx1_0 : w7.cell? ⟨w.heap.size, 0, none⟩ = some (.int .i64 a1.s) := (hb7.cell (p := ⟨w.heap.size, 0, none⟩) bl1).trans bx1_0
    replace bx1_1 : w7.cell? ⟨w.heap.size, 1, none⟩ = some (.int .i64 a1.e) := (hb7.cell (p := ⟨w.heap.size, 1, none⟩) bl1).trans bx1_1
    replace bx1_2 : w7.cell? ⟨w.heap.size, 2, none⟩ = some (.int .i64 a1.d) := (hb7.cell (p := ⟨w.heap.size, 2, none⟩) bl1).trans bx1_2
    replace bx1_3 : w7.cell? ⟨w.heap.size, 3, none⟩ = some (.int .i64 a1.a) := (hb7.cell (p := ⟨w.heap.size, 3, none⟩) bl1).trans bx1_3
    replace bl1 := Nat.lt_of_lt_of_le bl1 hb7.size
    replace o_w := o_w.below (hb7.mono ble_w)
    replace ble_w := Nat.le_trans ble_w hb7.size
    replace o_x0 := o_x0.below hb7 o_x0.lt
    replace o_g := o_g.on hb7
    have y_t0 := o_t0.lt
    go_wp2_with fail
    refine (eqRuleS_any _ _ _ _ a0 _ (o_x0.ls encRule_len) (o_t0.ls encRule_len) (by omega)).mono ?_
    rintro e w8 ⟨rfl, hb8⟩
    have h8 := blw h7 hb8
    have z8 := hb8.size
    replace bx1_0 : w8.cell? ⟨w.heap.size, 0, none⟩ = some (.int .i64 a1.s) := (hb8.cell (p := ⟨w.heap.size, 0, none⟩) bl1).trans bx1_0
    replace bx1_1 : w8.cell? ⟨w.heap.size, 1, none⟩ = some (.int .i64 a1.e) := (hb8.cell (p := ⟨w.heap.size, 1, none⟩) bl1).trans bx1_1
    replace bx1_2 : w8.cell? ⟨w.heap.size, 2, none⟩ = some (.int .i64 a1.d) := (hb8.cell (p := ⟨w.heap.size, 2, none⟩) bl1).trans bx1_2
    replace bx1_3 : w8.cell? ⟨w.heap.size, 3, none⟩ = some (.int .i64 a1.a) := (hb8.cell (p := ⟨w.heap.size, 3, none⟩) bl1).trans bx1_3
    replace bl1 := Nat.lt_of_lt_of_le bl1 hb8.size
    replace o_w := o_w.below (hb8.mono ble_w)
    replace ble_w := Nat.le_trans ble_w hb8.size
    replace o_x0 := o_x0.below hb8 o_x0.lt
    replace o_g := o_g.on hb8
    replace o_t0 := o_t0.below hb8 o_t0.lt
    go_wp2_with fail
    refine (markRuleS_any _ _ a0.length _ _ o_x0.row1 hn0 (by omega) (by omega)).mono ?_
    rintro e w9 ⟨rfl, hw9, _⟩
    have hS9 : ∀ b, blkOf (some ⟨g_x0, 0, none⟩) b → g_x0 ≤ b := fun b hb => by obtain ⟨q, hq⟩ := hb; simp at hq <;> omega
    have h9 := h8.trans (hw9.below h8.size (fun b hb => Nat.le_trans (by have := h0.size; omega) (hS9 b hb)))
    have z9 := hw9.size
    replace bx1_0 : w9.cell? ⟨w.heap.size, 0, none⟩ = some (.int .i64 a1.s) := (hw9.cell (k := w.heap.size) (o := 0) bl1 (fun hS => by obtain ⟨q, hq⟩ := hS; simp at hq <;> omega)).trans bx1_0
    replace bx1_1 : w9.cell? ⟨w.heap.size, 1, none⟩ = some (.int .i64 a1.e) := (hw9.cell (k := w.heap.size) (o := 1) bl1 (fun hS => by obtain ⟨q, hq⟩ := hS; simp at hq <;> omega)).trans bx1_1
    replace bx1_2 : w9.cell? ⟨w.heap.size, 2, none⟩ = some (.int .i64 a1.d) := (hw9.cell (k := w.heap.size) (o := 2) bl1 (fun hS => by obtain ⟨q, hq⟩ := hS; simp at hq <;> omega)).trans bx1_2
    replace bx1_3 : w9.cell? ⟨w.heap.size, 3, none⟩ = some (.int .i64 a1.a) := (hw9.cell (k := w.heap.size) (o := 3) bl1 (fun hS => by obtain ⟨q, hq⟩ := hS; simp at hq <;> omega)).trans bx1_3
    replace bl1 := Nat.lt_of_lt_of_le bl1 hw9.size
    replace o_w := o_w.wr hw9 (fun b hb => by have := hS9 b hb; omega) ble_w
    replace ble_w := Nat.le_trans ble_w hw9.size
    replace o_g := o_g.wr_up hw9 (fun b hb hS => by obtain ⟨q, hq⟩ := hS; simp at hq <;> omega)
    go_wp2_with fail
    refine (eqRuleS_any _ _ _ _ (putL a0 ⟨a1.s, a1.e, a1.d, a1.a⟩) _ (o_g.ls encRule_len) (o_w.more ble_w) (by have := putL_le8 a0 ⟨a1.s, a1.e, a1.d, a1.a⟩; omega)).mono ?_
    rintro e w10 ⟨rfl, hb10⟩
    have h10 := blw h9 hb10
    have z10 := hb10.size
    replace bx1_0 : w10.cell? ⟨w.heap.size, 0, none⟩ = some (.int .i64 a1.s) := (hb10.cell (p := ⟨w.heap.size, 0, none⟩) bl1).trans bx1_0
    replace bx1_1 : w10.cell? ⟨w.heap.size, 1, none⟩ = some (.int .i64 a1.e) := (hb10.cell (p := ⟨w.heap.size, 1, none⟩) bl1).trans bx1_1
    replace bx1_2 : w10.cell? ⟨w.heap.size, 2, none⟩ = some (.int .i64 a1.d) := (hb10.cell (p := ⟨w.heap.size, 2, none⟩) bl1).trans bx1_2
    replace bx1_3 : w10.cell? ⟨w.heap.size, 3, none⟩ = some (.int .i64 a1.a) := (hb10.cell (p := ⟨w.heap.size, 3, none⟩) bl1).trans bx1_3
    replace bl1 := Nat.lt_of_lt_of_le bl1 hb10.size
    replace o_w := o_w.below (hb10.mono ble_w)
    replace ble_w := Nat.le_trans ble_w hb10.size
    replace o_g := o_g.on hb10
    have hr_g := o_g.row1
    go_wp2_with fail
    refine (markRuleS_any _ _ _ _ _ hr_g (by have := putL_le8 a0 ⟨a1.s, a1.e, a1.d, a1.a⟩; omega) (by omega) (by omega)).mono ?_
    rintro e w11 ⟨rfl, hw11, o_m⟩
    have hS11 : ∀ b, blkOf A_g b → Bg ≤ b := fun b hb => (o_g.block hb).1
    have h11 := h10.trans (hw11.below h10.size (fun b hb => Nat.le_trans gw_g (hS11 b hb)))
    have z11 := hw11.size
    replace bx1_0 : w11.cell? ⟨w.heap.size, 0, none⟩ = some (.int .i64 a1.s) := (hw11.cell (k := w.heap.size) (o := 0) bl1 (fun hS => by have := hS11 _ hS; have := ub_g _ hS; omega)).trans bx1_0
    replace bx1_1 : w11.cell? ⟨w.heap.size, 1, none⟩ = some (.int .i64 a1.e) := (hw11.cell (k := w.heap.size) (o := 1) bl1 (fun hS => by have := hS11 _ hS; have := ub_g _ hS; omega)).trans bx1_1
    replace bx1_2 : w11.cell? ⟨w.heap.size, 2, none⟩ = some (.int .i64 a1.d) := (hw11.cell (k := w.heap.size) (o := 2) bl1 (fun hS => by have := hS11 _ hS; have := ub_g _ hS; omega)).trans bx1_2
    replace bx1_3 : w11.cell? ⟨w.heap.size, 3, none⟩ = some (.int .i64 a1.a) := (hw11.cell (k := w.heap.size) (o := 3) bl1 (fun hS => by have := hS11 _ hS; have := ub_g _ hS; omega)).trans bx1_3
    replace bl1 := Nat.lt_of_lt_of_le bl1 hw11.size
    replace o_w := o_w.wr hw11 (fun b hb => by have := hS11 b hb; omega) ble_w
    replace ble_w := Nat.le_trans ble_w hw11.size
    go_wp2_with fail
    refine (heldRuleS_any _ _ _ _ _ o_m (by have := putL_le8 a0 ⟨a1.s, a1.e, a1.d, a1.a⟩; omega) (by omega) (by omega)).mono ?_
    rintro e _ ⟨rfl, rfl⟩
    go_wp2_with fail
    have HK12 : Hid (∀ W, Below w11.heap.size w11 W → Below w11.heap.size w11 W ∧ W.cell? ⟨w.heap.size, 0, none⟩ = some (.int .i64 a1.s) ∧ W.cell? ⟨w.heap.size, 1, none⟩ = some (.int .i64 a1.e) ∧ W.cell? ⟨w.heap.size, 2, none⟩ = some (.int .i64 a1.d) ∧ W.cell? ⟨w.heap.size, 3, none⟩ = some (.int .i64 a1.a)) := fun W hb => ⟨hb, (hb.cell (p := ⟨_, _, _⟩) bl1).trans bx1_0, (hb.cell (p := ⟨_, _, _⟩) bl1).trans bx1_1, (hb.cell (p := ⟨_, _, _⟩) bl1).trans bx1_2, (hb.cell (p := ⟨_, _, _⟩) bl1).trans bx1_3⟩
    have HL12_0 : Hid (∀ W, Below w11.heap.size w11 W → Ls W W.heap.size encRule 4 A0 a0) := fun W hb => ((hl0.below (blw h11 hb)).more (blw h11 hb).size)
    go_region_held3 (fun W => Below w11.heap.size w11 W ∧ W.cell? ⟨w.heap.size, 0, none⟩ = some (.int .i64 a1.s) ∧ W.cell? ⟨w.heap.size, 1, none⟩ = some (.int .i64 a1.e) ∧ W.cell? ⟨w.heap.size, 2, none⟩ = some (.int .i64 a1.d) ∧ W.cell? ⟨w.heap.size, 3, none⟩ = some (.int .i64 a1.a))
      (first | exact HK12.out _ (Below.refl _ w11).drew | exact HK12.out _ (blw (And.left ‹Below w11.heap.size w11 _ ∧ _›) hd0) | exact HK12.out _ (blw (And.left ‹Below w11.heap.size w11 _ ∧ _›) hd1) | exact HK12.out _ (blw (And.left ‹Below w11.heap.size w11 _ ∧ _›) hd_f))
      (first | (go_at_call 15; refine (toRuleS_any _ _ a0 _ (HL12_0.out _ (And.left ‹Below w11.heap.size w11 _ ∧ _›)) hn0).mono ?_; rintro e wd0 ⟨g_u0, gl_u0, rfl, o_u0, hd0⟩) | (go_at_call 16; refine (toRule_v _ _ _ _ _).mono ?_; rintro e wd1 ⟨rfl, hd1⟩) | (go_at_call 17; refine (c4_impl_PutRule _ _ a0 _ _ _ _ _ (by first | exact o_u0.ls encRule_len | exact (o_u0.below hd1 o_u0.lt).ls encRule_len) hn0).mono ?_; rintro e w12 ⟨A_h, C_h, rfl, o_h, hd_f⟩))
    all_goals
      have hb12 : Below w11.heap.size w11 w12 := And.left ‹Below w11.heap.size w11 w12 ∧ _›
      clear HK12 HL12_0
      have h12 := blw h11 hb12
      have z12 := hb12.size
      replace bx1_0 : w12.cell? ⟨w.heap.size, 0, none⟩ = some (.int .i64 a1.s) := (hb12.cell (p := ⟨w.heap.size, 0, none⟩) bl1).trans bx1_0
      replace bx1_1 : w12.cell? ⟨w.heap.size, 1, none⟩ = some (.int .i64 a1.e) := (hb12.cell (p := ⟨w.heap.size, 1, none⟩) bl1).trans bx1_1
      replace bx1_2 : w12.cell? ⟨w.heap.size, 2, none⟩ = some (.int .i64 a1.d) := (hb12.cell (p := ⟨w.heap.size, 2, none⟩) bl1).trans bx1_2
      replace bx1_3 : w12.cell? ⟨w.heap.size, 3, none⟩ = some (.int .i64 a1.a) := (hb12.cell (p := ⟨w.heap.size, 3, none⟩) bl1).trans bx1_3
      replace bl1 := Nat.lt_of_lt_of_le bl1 hb12.size
      replace o_w := o_w.below (hb12.mono ble_w)
      replace ble_w := Nat.le_trans ble_w hb12.size
      replace o_m := (o_m.below hb12).more hb12.size
      go_wp2_with fail
      refine (eqRuleS_any _ _ _ _ (putL a0 ⟨a1.s, a1.e, a1.d, a1.a⟩) _ (o_h.ls encRule_len) (o_w.more ble_w) (by have := putL_le8 a0 ⟨a1.s, a1.e, a1.d, a1.a⟩; omega)).mono ?_
      rintro e w13 ⟨rfl, hb13⟩
      have h13 := blw h12 hb13
      have z13 := hb13.size
      replace bx1_0 : w13.cell? ⟨w.heap.size, 0, none⟩ = some (.int .i64 a1.s) := (hb13.cell (p := ⟨w.heap.size, 0, none⟩) bl1).trans bx1_0
      replace bx1_1 : w13.cell? ⟨w.heap.size, 1, none⟩ = some (.int .i64 a1.e) := (hb13.cell (p := ⟨w.heap.size, 1, none⟩) bl1).trans bx1_1
      replace bx1_2 : w13.cell? ⟨w.heap.size, 2, none⟩ = some (.int .i64 a1.d) := (hb13.cell (p := ⟨w.heap.size, 2, none⟩) bl1).trans bx1_2
      replace bx1_3 : w13.cell? ⟨w.heap.size, 3, none⟩ = some (.int .i64 a1.a) := (hb13.cell (p := ⟨w.heap.size, 3, none⟩) bl1).trans bx1_3
      replace bl1 := Nat.lt_of_lt_of_le bl1 hb13.size
      replace o_w := o_w.below (hb13.mono ble_w)
      replace ble_w := Nat.le_trans ble_w hb13.size
      replace o_m := (o_m.below hb13).more hb13.size
      replace o_h := o_h.on hb13
      go_wp2_with fail
      refine (heldRuleS_any _ _ _ _ _ o_m (by have := putL_le8 a0 ⟨a1.s, a1.e, a1.d, a1.a⟩; omega) (by omega) (by omega)).mono ?_
      rintro e _ ⟨rfl, rfl⟩
      go_wp2_with fail
      go_ret
      exact ⟨rfl, h13⟩

end Go.Proofs.Ytnohonedfeacdaa
