/- The law of AddEvent, walked. -/
import Derived.Test.YtnohonedfeacdaaW2i
import Derived.Deep.RegionHeld3
namespace Go.Proofs.Ytnohonedfeacdaa
set_option linter.unusedVariables false
set_option linter.unusedSimpArgs false
open Go.RowKit
attribute [local go_sem] Aft.cell

set_option maxHeartbeats 4000000 in
theorem walk_FnExactAddEvent (a0 : Rec) (a1 : Ev) (w : World) (ok0 : okRec w a0) (ok1 : okEv a1) :
    Calls Try.prog 3 #[.agg #[.int .i64 a0.id, .int .i64 a0.series, .int .i64 a0.made, .slice a0.A a0.evs.length a0.c], .agg #[.int .i64 a1.1, .int .i64 a1.2]] w fun e w' => e = .returned (.bool true) ∧ Below w.heap.size w w' := by
  obtain ⟨hrg0a, hrg0b, hrg0c, hl0, hok0, hmx0⟩ := ok0
  go_enter Try.func3, Try.ntmps3
  go_wp2_with fail
  have h0 : Below w.heap.size w ((w.alloc (.cells #[.int .i64 a0.id, .int .i64 a0.series, .int .i64 a0.made, .slice a0.A a0.evs.length a0.c] 24)).alloc (.cells #[.int .i64 a1.1, .int .i64 a1.2] 26)) := (blw_alloc (blw_alloc (Below.refl w.heap.size w) _) _)
  have bx0_0 : ((w.alloc (.cells #[.int .i64 a0.id, .int .i64 a0.series, .int .i64 a0.made, .slice a0.A a0.evs.length a0.c] 24)).alloc (.cells #[.int .i64 a1.1, .int .i64 a1.2] 26)).cell? ⟨w.heap.size, 0, none⟩ = some (.int .i64 a0.id) := by simp [World.cell?_alloc_lt]
  have bx0_1 : ((w.alloc (.cells #[.int .i64 a0.id, .int .i64 a0.series, .int .i64 a0.made, .slice a0.A a0.evs.length a0.c] 24)).alloc (.cells #[.int .i64 a1.1, .int .i64 a1.2] 26)).cell? ⟨w.heap.size, 1, none⟩ = some (.int .i64 a0.series) := by simp [World.cell?_alloc_lt]
  have bx0_2 : ((w.alloc (.cells #[.int .i64 a0.id, .int .i64 a0.series, .int .i64 a0.made, .slice a0.A a0.evs.length a0.c] 24)).alloc (.cells #[.int .i64 a1.1, .int .i64 a1.2] 26)).cell? ⟨w.heap.size, 2, none⟩ = some (.int .i64 a0.made) := by simp [World.cell?_alloc_lt]
  have bx0_3 : ((w.alloc (.cells #[.int .i64 a0.id, .int .i64 a0.series, .int .i64 a0.made, .slice a0.A a0.evs.length a0.c] 24)).alloc (.cells #[.int .i64 a1.1, .int .i64 a1.2] 26)).cell? ⟨w.heap.size, 3, none⟩ = some (.slice a0.A a0.evs.length a0.c) := by simp [World.cell?_alloc_lt]
  have bl0 : w.heap.size < ((w.alloc (.cells #[.int .i64 a0.id, .int .i64 a0.series, .int .i64 a0.made, .slice a0.A a0.evs.length a0.c] 24)).alloc (.cells #[.int .i64 a1.1, .int .i64 a1.2] 26)).heap.size := by simp; try omega
  have bx1_0 : ((w.alloc (.cells #[.int .i64 a0.id, .int .i64 a0.series, .int .i64 a0.made, .slice a0.A a0.evs.length a0.c] 24)).alloc (.cells #[.int .i64 a1.1, .int .i64 a1.2] 26)).cell? ⟨w.heap.size + 1, 0, none⟩ = some (.int .i64 a1.1) := by simp [World.cell?_alloc_lt]
  have bx1_1 : ((w.alloc (.cells #[.int .i64 a0.id, .int .i64 a0.series, .int .i64 a0.made, .slice a0.A a0.evs.length a0.c] 24)).alloc (.cells #[.int .i64 a1.1, .int .i64 a1.2] 26)).cell? ⟨w.heap.size + 1, 1, none⟩ = some (.int .i64 a1.2) := by simp [World.cell?_alloc_lt]
  have bl1 : w.heap.size + 1 < ((w.alloc (.cells #[.int .i64 a0.id, .int .i64 a0.series, .int .i64 a0.made, .slice a0.A a0.evs.length a0.c] 24)).alloc (.cells #[.int .i64 a1.1, .int .i64 a1.2] 26)).heap.size := by simp; try omega
  generalize ((w.alloc (.cells #[.int .i64 a0.id, .int .i64 a0.series, .int .i64 a0.made, .slice a0.A a0.evs.length a0.c] 24)).alloc (.cells #[.int .i64 a1.1, .int .i64 a1.2] 26)) = W0 at *
  have bl0k := bl0
  have bl1k := bl1
  go_wp2_with fail
  refine (szRecord_sz _ _ _ _ _ _ _ _ hmx0 (by omega) (by omega)).mono ?_
  rintro e w1 ⟨r1, rfl, hra1, hrb1, hrp1, hb1⟩
  have h1 := blw h0 hb1
  have z1 := hb1.size
  replace bx0_0 : w1.cell? ⟨w.heap.size, 0, none⟩ = some (.int .i64 a0.id) := (hb1.cell (p := ⟨w.heap.size, 0, none⟩) bl0).trans bx0_0
  replace bx0_1 : w1.cell? ⟨w.heap.size, 1, none⟩ = some (.int .i64 a0.series) := (hb1.cell (p := ⟨w.heap.size, 1, none⟩) bl0).trans bx0_1
  replace bx0_2 : w1.cell? ⟨w.heap.size, 2, none⟩ = some (.int .i64 a0.made) := (hb1.cell (p := ⟨w.heap.size, 2, none⟩) bl0).trans bx0_2
  replace bx0_3 : w1.cell? ⟨w.heap.size, 3, none⟩ = some (.slice a0.A a0.evs.length a0.c) := (hb1.cell (p := ⟨w.heap.size, 3, none⟩) bl0).trans bx0_3
  replace bl0 := Nat.lt_of_lt_of_le bl0 hb1.size
  replace bx1_0 : w1.cell? ⟨w.heap.size + 1, 0, none⟩ = some (.int .i64 a1.1) := (hb1.cell (p := ⟨w.heap.size + 1, 0, none⟩) bl1).trans bx1_0
  replace bx1_1 : w1.cell? ⟨w.heap.size + 1, 1, none⟩ = some (.int .i64 a1.2) := (hb1.cell (p := ⟨w.heap.size + 1, 1, none⟩) bl1).trans bx1_1
  replace bl1 := Nat.lt_of_lt_of_le bl1 hb1.size
  by_cases hneg1 : r1 < 0
  · clear hrp1
    go_wp2_with fail
    go_ret
    exact ⟨rfl, h1⟩
  have hn0 := hrp1 (by omega)
  clear hrp1
  have hnn1 : ¬ r1 < 0 := hneg1
  go_wp2_with fail
  rename_i K0 hK0
  have HT2 : Hid (∀ (u0 u1 u5 u8 u9 u10 u11 u12 u13 u14 u15 u16 u17 u18 u19 u20 u21 u22 u23 u24 u25 u26 u27 u28 u29 u30 u31 u32 u33 u34 u35 u36 u37 u38 u39 u40 u41 u42 u43 u44 u45 u46 u47 u48 u49 u50 u51 u52 u53 u54 u55 u56 u57 u58 u59 u60 u61 u62 u63 u64 u65 u66 u67 u68 u69 u70 u71 u72 u73 u74 u75 u76 u77 u78 u79 u80 u81 u82 u83 u84 u85 u86 u87 u88 u89 u90 u91 u92 u93 u94 u95 u96 u97 u98 u99 u100 u101 u102 u103 : Value) (A_w : Option Addr) (C_w N_w : Nat) (w2 : World), Below w1.heap.size w1 w2 → Vec w2 w1.heap.size 34 encEv 2 (.slice A_w (addL a0.id a0.series a0.made a0.evs (a1.1, a1.2)).length C_w) (addL a0.id a0.series a0.made a0.evs (a1.1, a1.2)) → Blk w2 N_w 30 #[.int .i64 (keepI (addB a0.id a0.series a0.made a0.evs (a1.1, a1.2)) a0.id), .int .i64 (keepI (addB a0.id a0.series a0.made a0.evs (a1.1, a1.2)) a0.series), .int .i64 (keepI (addB a0.id a0.series a0.made a0.evs (a1.1, a1.2)) a0.made), .slice A_w (addL a0.id a0.series a0.made a0.evs (a1.1, a1.2)).length C_w] → w1.heap.size ≤ N_w → K0 { tmps := #[u0, u1, .pointer (some ⟨w.heap.size, 0, none⟩), .pointer (some ⟨w.heap.size + 1, 0, none⟩), .bool false, u5, .pointer (some ⟨N_w, 0, none⟩), .bool (addB a0.id a0.series a0.made a0.evs (a1.1, a1.2)), u8, u9, u10, u11, u12, u13, u14, u15, u16, u17, u18, u19, u20, u21, u22, u23, u24, u25, u26, u27, u28, u29, u30, u31, u32, u33, u34, u35, u36, u37, u38, u39, u40, u41, u42, u43, u44, u45, u46, u47, u48, u49, u50, u51, u52, u53, u54, u55, u56, u57, u58, u59, u60, u61, u62, u63, u64, u65, u66, u67, u68, u69, u70, u71, u72, u73, u74, u75, u76, u77, u78, u79, u80, u81, u82, u83, u84, u85, u86, u87, u88, u89, u90, u91, u92, u93, u94, u95, u96, u97, u98, u99, u100, u101, u102, u103], defers := [] } w2) := by
    intro u0 u1 u5 u8 u9 u10 u11 u12 u13 u14 u15 u16 u17 u18 u19 u20 u21 u22 u23 u24 u25 u26 u27 u28 u29 u30 u31 u32 u33 u34 u35 u36 u37 u38 u39 u40 u41 u42 u43 u44 u45 u46 u47 u48 u49 u50 u51 u52 u53 u54 u55 u56 u57 u58 u59 u60 u61 u62 u63 u64 u65 u66 u67 u68 u69 u70 u71 u72 u73 u74 u75 u76 u77 u78 u79 u80 u81 u82 u83 u84 u85 u86 u87 u88 u89 u90 u91 u92 u93 u94 u95 u96 u97 u98 u99 u100 u101 u102 u103 A_w C_w N_w w2 hb2 o_w hbx hN2
    apply hK0
    clear hK0
    have h2 := blw h1 hb2
    have z2 := hb2.size
    replace bx0_0 : w2.cell? ⟨w.heap.size, 0, none⟩ = some (.int .i64 a0.id) := (hb2.cell (p := ⟨w.heap.size, 0, none⟩) bl0).trans bx0_0
    replace bx0_1 : w2.cell? ⟨w.heap.size, 1, none⟩ = some (.int .i64 a0.series) := (hb2.cell (p := ⟨w.heap.size, 1, none⟩) bl0).trans bx0_1
    replace bx0_2 : w2.cell? ⟨w.heap.size, 2, none⟩ = some (.int .i64 a0.made) := (hb2.cell (p := ⟨w.heap.size, 2, none⟩) bl0).trans bx0_2
    replace bx0_3 : w2.cell? ⟨w.heap.size, 3, none⟩ = some (.slice a0.A a0.evs.length a0.c) := (hb2.cell (p := ⟨w.heap.size, 3, none⟩) bl0).trans bx0_3
    replace bl0 := Nat.lt_of_lt_of_le bl0 hb2.size
    replace bx1_0 : w2.cell? ⟨w.heap.size + 1, 0, none⟩ = some (.int .i64 a1.1) := (hb2.cell (p := ⟨w.heap.size + 1, 0, none⟩) bl1).trans bx1_0
    replace bx1_1 : w2.cell? ⟨w.heap.size + 1, 1, none⟩ = some (.int .i64 a1.2) := (hb2.cell (p := ⟨w.heap.size + 1, 1, none⟩) bl1).trans bx1_1
    replace bl1 := Nat.lt_of_lt_of_le bl1 hb2.size
    have rb_w_0 : w2.cell? ⟨N_w, 0, none⟩ = some (.int .i64 (keepI (addB a0.id a0.series a0.made a0.evs (a1.1, a1.2)) a0.id)) := hbx.cell 0
    have rb_w_1 : w2.cell? ⟨N_w, 1, none⟩ = some (.int .i64 (keepI (addB a0.id a0.series a0.made a0.evs (a1.1, a1.2)) a0.series)) := hbx.cell 1
    have rb_w_2 : w2.cell? ⟨N_w, 2, none⟩ = some (.int .i64 (keepI (addB a0.id a0.series a0.made a0.evs (a1.1, a1.2)) a0.made)) := hbx.cell 2
    have rb_w_3 : w2.cell? ⟨N_w, 3, none⟩ = some (.slice A_w (addL a0.id a0.series a0.made a0.evs (a1.1, a1.2)).length C_w) := hbx.cell 3
    have rb_wl : N_w < w2.heap.size := hbx.lt
    have rb_wlk := rb_wl
    have rb_wz : w1.heap.size ≤ N_w := hN2
    have hne_w := o_w.ne_blk2 hbx (by decide)
    clear hbx
    replace o_w := o_w.ls encEv_len
    have ble_w : w2.heap.size ≤ w2.heap.size := Nat.le_refl _
    have Bw : ∃ n, n = w2.heap.size := ⟨_, rfl⟩
    obtain ⟨Bw, hBw⟩ := Bw
    rw [← hBw] at o_w
    have ble_w : Bw ≤ w2.heap.size := Nat.le_of_eq hBw
    have bw0 := ble_w
    have HBw := Lib.hid hBw
    clear hBw
    go_wp2_with fail
    refine (toRecord_any _ _ _ _ _ a0.evs _ ((hl0.below h2).more h2.size) hn0).mono ?_
    rintro e w3 ⟨g_x0, gl_x0, rfl, o_x0, hb3⟩
    have h3 := blw h2 hb3
    have z3 := hb3.size
    replace bx0_0 : w3.cell? ⟨w.heap.size, 0, none⟩ = some (.int .i64 a0.id) := (hb3.cell (p := ⟨w.heap.size, 0, none⟩) bl0).trans bx0_0
    replace bx0_1 : w3.cell? ⟨w.heap.size, 1, none⟩ = some (.int .i64 a0.series) := (hb3.cell (p := ⟨w.heap.size, 1, none⟩) bl0).trans bx0_1
    replace bx0_2 : w3.cell? ⟨w.heap.size, 2, none⟩ = some (.int .i64 a0.made) := (hb3.cell (p := ⟨w.heap.size, 2, none⟩) bl0).trans bx0_2
    replace bx0_3 : w3.cell? ⟨w.heap.size, 3, none⟩ = some (.slice a0.A a0.evs.length a0.c) := (hb3.cell (p := ⟨w.heap.size, 3, none⟩) bl0).trans bx0_3
    replace bl0 := Nat.lt_of_lt_of_le bl0 hb3.size
    replace bx1_0 : w3.cell? ⟨w.heap.size + 1, 0, none⟩ = some (.int .i64 a1.1) := (hb3.cell (p := ⟨w.heap.size + 1, 0, none⟩) bl1).trans bx1_0
    replace bx1_1 : w3.cell? ⟨w.heap.size + 1, 1, none⟩ = some (.int .i64 a1.2) := (hb3.cell (p := ⟨w.heap.size + 1, 1, none⟩) bl1).trans bx1_1
    replace bl1 := Nat.lt_of_lt_of_le bl1 hb3.size
    replace rb_w_0 : w3.cell? ⟨N_w, 0, none⟩ = some (.int .i64 (keepI (addB a0.id a0.series a0.made a0.evs (a1.1, a1.2)) a0.id)) := (hb3.cell (p := ⟨N_w, 0, none⟩) rb_wl).trans rb_w_0
    replace rb_w_1 : w3.cell? ⟨N_w, 1, none⟩ = some (.int .i64 (keepI (addB a0.id a0.series a0.made a0.evs (a1.1, a1.2)) a0.series)) := (hb3.cell (p := ⟨N_w, 1, none⟩) rb_wl).trans rb_w_1
    replace rb_w_2 : w3.cell? ⟨N_w, 2, none⟩ = some (.int .i64 (keepI (addB a0.id a0.series a0.made a0.evs (a1.1, a1.2)) a0.made)) := (hb3.cell (p := ⟨N_w, 2, none⟩) rb_wl).trans rb_w_2
    replace rb_w_3 : w3.cell? ⟨N_w, 3, none⟩ = some (.slice A_w (addL a0.id a0.series a0.made a0.evs (a1.1, a1.2)).length C_w) := (hb3.cell (p := ⟨N_w, 3, none⟩) rb_wl).trans rb_w_3
    replace rb_wl := Nat.lt_of_lt_of_le rb_wl hb3.size
    replace o_w := o_w.below (hb3.mono ble_w)
    replace ble_w := Nat.le_trans ble_w hb3.size
    have y_x0 := o_x0.lt
    have gw_x0 : Bw ≤ g_x0 := Nat.le_trans (by omega) gl_x0
    go_wp2_with fail
    have hbA1 : Below w3.heap.size w3 (w3.alloc (.cells #[.int .i64 a0.id, .int .i64 a0.series, .int .i64 a0.made, .slice (some ⟨g_x0, 0, none⟩) a0.evs.length a0.evs.length] 30)) := (Below.refl _ _).alloc (Nat.le_refl _) _
    have xb0_0 : (w3.alloc (.cells #[.int .i64 a0.id, .int .i64 a0.series, .int .i64 a0.made, .slice (some ⟨g_x0, 0, none⟩) a0.evs.length a0.evs.length] 30)).cell? ⟨w3.heap.size, 0, none⟩ = some (.int .i64 a0.id) := by simp
    have xb0_1 : (w3.alloc (.cells #[.int .i64 a0.id, .int .i64 a0.series, .int .i64 a0.made, .slice (some ⟨g_x0, 0, none⟩) a0.evs.length a0.evs.length] 30)).cell? ⟨w3.heap.size, 1, none⟩ = some (.int .i64 a0.series) := by simp
    have xb0_2 : (w3.alloc (.cells #[.int .i64 a0.id, .int .i64 a0.series, .int .i64 a0.made, .slice (some ⟨g_x0, 0, none⟩) a0.evs.length a0.evs.length] 30)).cell? ⟨w3.heap.size, 2, none⟩ = some (.int .i64 a0.made) := by simp
    have xb0_3 : (w3.alloc (.cells #[.int .i64 a0.id, .int .i64 a0.series, .int .i64 a0.made, .slice (some ⟨g_x0, 0, none⟩) a0.evs.length a0.evs.length] 30)).cell? ⟨w3.heap.size, 3, none⟩ = some (.slice (some ⟨g_x0, 0, none⟩) a0.evs.length a0.evs.length) := by simp
    have xb0l : w3.heap.size < (w3.alloc (.cells #[.int .i64 a0.id, .int .i64 a0.series, .int .i64 a0.made, .slice (some ⟨g_x0, 0, none⟩) a0.evs.length a0.evs.length] 30)).heap.size := by simp
    have xb0z : w.heap.size ≤ w3.heap.size := h3.size
    generalize (w3.alloc (.cells #[.int .i64 a0.id, .int .i64 a0.series, .int .i64 a0.made, .slice (some ⟨g_x0, 0, none⟩) a0.evs.length a0.evs.length] 30)) = wA1 at *
    have xb0lk := xb0l
    have hA1 := blw h3 hbA1
    have zA1 := hbA1.size
    replace bx0_0 : wA1.cell? ⟨w.heap.size, 0, none⟩ = some (.int .i64 a0.id) := (hbA1.cell (p := ⟨w.heap.size, 0, none⟩) bl0).trans bx0_0
    replace bx0_1 : wA1.cell? ⟨w.heap.size, 1, none⟩ = some (.int .i64 a0.series) := (hbA1.cell (p := ⟨w.heap.size, 1, none⟩) bl0).trans bx0_1
    replace bx0_2 : wA1.cell? ⟨w.heap.size, 2, none⟩ = some (.int .i64 a0.made) := (hbA1.cell (p := ⟨w.heap.size, 2, none⟩) bl0).trans bx0_2
    replace bx0_3 : wA1.cell? ⟨w.heap.size, 3, none⟩ = some (.slice a0.A a0.evs.length a0.c) := (hbA1.cell (p := ⟨w.heap.size, 3, none⟩) bl0).trans bx0_3
    replace bl0 := Nat.lt_of_lt_of_le bl0 hbA1.size
    replace bx1_0 : wA1.cell? ⟨w.heap.size + 1, 0, none⟩ = some (.int .i64 a1.1) := (hbA1.cell (p := ⟨w.heap.size + 1, 0, none⟩) bl1).trans bx1_0
    replace bx1_1 : wA1.cell? ⟨w.heap.size + 1, 1, none⟩ = some (.int .i64 a1.2) := (hbA1.cell (p := ⟨w.heap.size + 1, 1, none⟩) bl1).trans bx1_1
    replace bl1 := Nat.lt_of_lt_of_le bl1 hbA1.size
    replace rb_w_0 : wA1.cell? ⟨N_w, 0, none⟩ = some (.int .i64 (keepI (addB a0.id a0.series a0.made a0.evs (a1.1, a1.2)) a0.id)) := (hbA1.cell (p := ⟨N_w, 0, none⟩) rb_wl).trans rb_w_0
    replace rb_w_1 : wA1.cell? ⟨N_w, 1, none⟩ = some (.int .i64 (keepI (addB a0.id a0.series a0.made a0.evs (a1.1, a1.2)) a0.series)) := (hbA1.cell (p := ⟨N_w, 1, none⟩) rb_wl).trans rb_w_1
    replace rb_w_2 : wA1.cell? ⟨N_w, 2, none⟩ = some (.int .i64 (keepI (addB a0.id a0.series a0.made a0.evs (a1.1, a1.2)) a0.made)) := (hbA1.cell (p := ⟨N_w, 2, none⟩) rb_wl).trans rb_w_2
    replace rb_w_3 : wA1.cell? ⟨N_w, 3, none⟩ = some (.slice A_w (addL a0.id a0.series a0.made a0.evs (a1.1, a1.2)).length C_w) := (hbA1.cell (p := ⟨N_w, 3, none⟩) rb_wl).trans rb_w_3
    replace rb_wl := Nat.lt_of_lt_of_le rb_wl hbA1.size
    replace o_w := o_w.below (hbA1.mono ble_w)
    replace ble_w := Nat.le_trans ble_w hbA1.size
    replace o_x0 := o_x0.below hbA1 o_x0.lt
    rename_i K0 hK0
    have HT4 : Hid (∀ (u0 u1 u5 u11 u12 u13 u14 u15 u16 u17 u18 u19 u20 u21 u22 u23 u24 u25 u26 u27 u28 u29 u30 u31 u32 u33 u34 u35 u36 u37 u38 u39 u40 u41 u42 u43 u44 u45 u46 u47 u48 u49 u50 u51 u52 u53 u54 u55 u56 u57 u58 u59 u60 u61 u62 u63 u64 u65 u66 u67 u68 u69 u70 u71 u72 u73 u74 u75 u76 u77 u78 u79 u80 u81 u82 u83 u84 u85 u86 u87 u88 u89 u90 u91 u92 u93 u94 u95 u96 u97 u98 u99 u100 u101 u102 u103 : Value) (A_g : Option Addr) (C_g N_g : Nat) (w4 : World), Below wA1.heap.size wA1 w4 → Vec w4 wA1.heap.size 34 encEv 2 (.slice A_g (addL a0.id a0.series a0.made a0.evs (a1.1, a1.2)).length C_g) (addL a0.id a0.series a0.made a0.evs (a1.1, a1.2)) → Blk w4 N_g 30 #[.int .i64 (keepI (addB a0.id a0.series a0.made a0.evs (a1.1, a1.2)) a0.id), .int .i64 (keepI (addB a0.id a0.series a0.made a0.evs (a1.1, a1.2)) a0.series), .int .i64 (keepI (addB a0.id a0.series a0.made a0.evs (a1.1, a1.2)) a0.made), .slice A_g (addL a0.id a0.series a0.made a0.evs (a1.1, a1.2)).length C_g] → wA1.heap.size ≤ N_g → K0 { tmps := #[u0, u1, .pointer (some ⟨w.heap.size, 0, none⟩), .pointer (some ⟨w.heap.size + 1, 0, none⟩), .bool false, u5, .pointer (some ⟨N_w, 0, none⟩), .bool (addB a0.id a0.series a0.made a0.evs (a1.1, a1.2)), .pointer (some ⟨w3.heap.size, 0, none⟩), .pointer (some ⟨N_g, 0, none⟩), .bool (addB a0.id a0.series a0.made a0.evs (a1.1, a1.2)), u11, u12, u13, u14, u15, u16, u17, u18, u19, u20, u21, u22, u23, u24, u25, u26, u27, u28, u29, u30, u31, u32, u33, u34, u35, u36, u37, u38, u39, u40, u41, u42, u43, u44, u45, u46, u47, u48, u49, u50, u51, u52, u53, u54, u55, u56, u57, u58, u59, u60, u61, u62, u63, u64, u65, u66, u67, u68, u69, u70, u71, u72, u73, u74, u75, u76, u77, u78, u79, u80, u81, u82, u83, u84, u85, u86, u87, u88, u89, u90, u91, u92, u93, u94, u95, u96, u97, u98, u99, u100, u101, u102, u103], defers := [] } w4) := by
      intro u0 u1 u5 u11 u12 u13 u14 u15 u16 u17 u18 u19 u20 u21 u22 u23 u24 u25 u26 u27 u28 u29 u30 u31 u32 u33 u34 u35 u36 u37 u38 u39 u40 u41 u42 u43 u44 u45 u46 u47 u48 u49 u50 u51 u52 u53 u54 u55 u56 u57 u58 u59 u60 u61 u62 u63 u64 u65 u66 u67 u68 u69 u70 u71 u72 u73 u74 u75 u76 u77 u78 u79 u80 u81 u82 u83 u84 u85 u86 u87 u88 u89 u90 u91 u92 u93 u94 u95 u96 u97 u98 u99 u100 u101 u102 u103 A_g C_g N_g w4 hb4 o_g hbx hN4
      apply hK0
      clear hK0
      have h4 := blw hA1 hb4
      have z4 := hb4.size
      replace bx0_0 : w4.cell? ⟨w.heap.size, 0, none⟩ = some (.int .i64 a0.id) := (hb4.cell (p := ⟨w.heap.size, 0, none⟩) bl0).trans bx0_0
      replace bx0_1 : w4.cell? ⟨w.heap.size, 1, none⟩ = some (.int .i64 a0.series) := (hb4.cell (p := ⟨w.heap.size, 1, none⟩) bl0).trans bx0_1
      replace bx0_2 : w4.cell? ⟨w.heap.size, 2, none⟩ = some (.int .i64 a0.made) := (hb4.cell (p := ⟨w.heap.size, 2, none⟩) bl0).trans bx0_2
      replace bx0_3 : w4.cell? ⟨w.heap.size, 3, none⟩ = some (.slice a0.A a0.evs.length a0.c) := (hb4.cell (p := ⟨w.heap.size, 3, none⟩) bl0).trans bx0_3
      replace bl0 := Nat.lt_of_lt_of_le bl0 hb4.size
      replace bx1_0 : w4.cell? ⟨w.heap.size + 1, 0, none⟩ = some (.int .i64 a1.1) := (hb4.cell (p := ⟨w.heap.size + 1, 0, none⟩) bl1).trans bx1_0
      replace bx1_1 : w4.cell? ⟨w.heap.size + 1, 1, none⟩ = some (.int .i64 a1.2) := (hb4.cell (p := ⟨w.heap.size + 1, 1, none⟩) bl1).trans bx1_1
      replace bl1 := Nat.lt_of_lt_of_le bl1 hb4.size
      replace rb_w_0 : w4.cell? ⟨N_w, 0, none⟩ = some (.int .i64 (keepI (addB a0.id a0.series a0.made a0.evs (a1.1, a1.2)) a0.id)) := (hb4.cell (p := ⟨N_w, 0, none⟩) rb_wl).trans rb_w_0
      replace rb_w_1 : w4.cell? ⟨N_w, 1, none⟩ = some (.int .i64 (keepI (addB a0.id a0.series a0.made a0.evs (a1.1, a1.2)) a0.series)) := (hb4.cell (p := ⟨N_w, 1, none⟩) rb_wl).trans rb_w_1
      replace rb_w_2 : w4.cell? ⟨N_w, 2, none⟩ = some (.int .i64 (keepI (addB a0.id a0.series a0.made a0.evs (a1.1, a1.2)) a0.made)) := (hb4.cell (p := ⟨N_w, 2, none⟩) rb_wl).trans rb_w_2
      replace rb_w_3 : w4.cell? ⟨N_w, 3, none⟩ = some (.slice A_w (addL a0.id a0.series a0.made a0.evs (a1.1, a1.2)).length C_w) := (hb4.cell (p := ⟨N_w, 3, none⟩) rb_wl).trans rb_w_3
      replace rb_wl := Nat.lt_of_lt_of_le rb_wl hb4.size
      replace xb0_0 : w4.cell? ⟨w3.heap.size, 0, none⟩ = some (.int .i64 a0.id) := (hb4.cell (p := ⟨w3.heap.size, 0, none⟩) xb0l).trans xb0_0
      replace xb0_1 : w4.cell? ⟨w3.heap.size, 1, none⟩ = some (.int .i64 a0.series) := (hb4.cell (p := ⟨w3.heap.size, 1, none⟩) xb0l).trans xb0_1
      replace xb0_2 : w4.cell? ⟨w3.heap.size, 2, none⟩ = some (.int .i64 a0.made) := (hb4.cell (p := ⟨w3.heap.size, 2, none⟩) xb0l).trans xb0_2
      replace xb0_3 : w4.cell? ⟨w3.heap.size, 3, none⟩ = some (.slice (some ⟨g_x0, 0, none⟩) a0.evs.length a0.evs.length) := (hb4.cell (p := ⟨w3.heap.size, 3, none⟩) xb0l).trans xb0_3
      replace xb0l := Nat.lt_of_lt_of_le xb0l hb4.size
      replace o_w := o_w.below (hb4.mono ble_w)
      replace ble_w := Nat.le_trans ble_w hb4.size
      replace o_x0 := o_x0.below hb4 o_x0.lt
      have rb_g_0 : w4.cell? ⟨N_g, 0, none⟩ = some (.int .i64 (keepI (addB a0.id a0.series a0.made a0.evs (a1.1, a1.2)) a0.id)) := hbx.cell 0
      have rb_g_1 : w4.cell? ⟨N_g, 1, none⟩ = some (.int .i64 (keepI (addB a0.id a0.series a0.made a0.evs (a1.1, a1.2)) a0.series)) := hbx.cell 1
      have rb_g_2 : w4.cell? ⟨N_g, 2, none⟩ = some (.int .i64 (keepI (addB a0.id a0.series a0.made a0.evs (a1.1, a1.2)) a0.made)) := hbx.cell 2
      have rb_g_3 : w4.cell? ⟨N_g, 3, none⟩ = some (.slice A_g (addL a0.id a0.series a0.made a0.evs (a1.1, a1.2)).length C_g) := hbx.cell 3
      have rb_gl : N_g < w4.heap.size := hbx.lt
      have rb_glk := rb_gl
      have rb_gz : wA1.heap.size ≤ N_g := hN4
      have hne_g := o_g.ne_blk2 hbx (by decide)
      clear hbx
      have bs_g : ∃ n, n = wA1.heap.size := ⟨_, rfl⟩
      have ub_g : ∀ b, blkOf A_g b → b < w4.heap.size := fun b hb => (o_g.block hb).2
      obtain ⟨Bg, hBg⟩ := bs_g
      rw [← hBg] at o_g
      have gg_g : wA1.heap.size ≤ Bg := Nat.le_of_eq hBg.symm
      have HBg := Lib.hid hBg
      clear hBg
      have gg_x0 : g_x0 < Bg := by omega
      have gg_bx0 : w.heap.size < Bg := by omega
      have gg_bx1 : w.heap.size + 1 < Bg := by omega
      have gg_rb_w : N_w < Bg := by omega
      have gg_xb0 : w3.heap.size < Bg := by omega
      have gw_g : w.heap.size ≤ Bg := by have := h4.size; omega
      go_wp2_with fail
      refine (eqRecord_any _ _ _ _ _ _ _ (addL a0.id a0.series a0.made a0.evs (a1.1, a1.2)) _ (o_g.ls encEv_len) (o_w.more ble_w) (by have := addL_le a0.id a0.series a0.made a0.evs (a1.1, a1.2); omega)).mono ?_
      rintro e w5 ⟨rfl, hb5⟩
      have h5 := blw h4 hb5
      have z5 := hb5.size
      replace bx0_0 : w5.cell? ⟨w.heap.size, 0, none⟩ = some (.int .i64 a0.id) := (hb5.cell (p := ⟨w.heap.size, 0, none⟩) bl0).trans bx0_0
      replace bx0_1 : w5.cell? ⟨w.heap.size, 1, none⟩ = some (.int .i64 a0.series) := (hb5.cell (p := ⟨w.heap.size, 1, none⟩) bl0).trans bx0_1
      replace bx0_2 : w5.cell? ⟨w.heap.size, 2, none⟩ = some (.int .i64 a0.made) := (hb5.cell (p := ⟨w.heap.size, 2, none⟩) bl0).trans bx0_2
      replace bx0_3 : w5.cell? ⟨w.heap.size, 3, none⟩ = some (.slice a0.A a0.evs.length a0.c) := (hb5.cell (p := ⟨w.heap.size, 3, none⟩) bl0).trans bx0_3
      replace bl0 := Nat.lt_of_lt_of_le bl0 hb5.size
      replace bx1_0 : w5.cell? ⟨w.heap.size + 1, 0, none⟩ = some (.int .i64 a1.1) := (hb5.cell (p := ⟨w.heap.size + 1, 0, none⟩) bl1).trans bx1_0
      replace bx1_1 : w5.cell? ⟨w.heap.size + 1, 1, none⟩ = some (.int .i64 a1.2) := (hb5.cell (p := ⟨w.heap.size + 1, 1, none⟩) bl1).trans bx1_1
      replace bl1 := Nat.lt_of_lt_of_le bl1 hb5.size
      replace rb_w_0 : w5.cell? ⟨N_w, 0, none⟩ = some (.int .i64 (keepI (addB a0.id a0.series a0.made a0.evs (a1.1, a1.2)) a0.id)) := (hb5.cell (p := ⟨N_w, 0, none⟩) rb_wl).trans rb_w_0
      replace rb_w_1 : w5.cell? ⟨N_w, 1, none⟩ = some (.int .i64 (keepI (addB a0.id a0.series a0.made a0.evs (a1.1, a1.2)) a0.series)) := (hb5.cell (p := ⟨N_w, 1, none⟩) rb_wl).trans rb_w_1
      replace rb_w_2 : w5.cell? ⟨N_w, 2, none⟩ = some (.int .i64 (keepI (addB a0.id a0.series a0.made a0.evs (a1.1, a1.2)) a0.made)) := (hb5.cell (p := ⟨N_w, 2, none⟩) rb_wl).trans rb_w_2
      replace rb_w_3 : w5.cell? ⟨N_w, 3, none⟩ = some (.slice A_w (addL a0.id a0.series a0.made a0.evs (a1.1, a1.2)).length C_w) := (hb5.cell (p := ⟨N_w, 3, none⟩) rb_wl).trans rb_w_3
      replace rb_wl := Nat.lt_of_lt_of_le rb_wl hb5.size
      replace xb0_0 : w5.cell? ⟨w3.heap.size, 0, none⟩ = some (.int .i64 a0.id) := (hb5.cell (p := ⟨w3.heap.size, 0, none⟩) xb0l).trans xb0_0
      replace xb0_1 : w5.cell? ⟨w3.heap.size, 1, none⟩ = some (.int .i64 a0.series) := (hb5.cell (p := ⟨w3.heap.size, 1, none⟩) xb0l).trans xb0_1
      replace xb0_2 : w5.cell? ⟨w3.heap.size, 2, none⟩ = some (.int .i64 a0.made) := (hb5.cell (p := ⟨w3.heap.size, 2, none⟩) xb0l).trans xb0_2
      replace xb0_3 : w5.cell? ⟨w3.heap.size, 3, none⟩ = some (.slice (some ⟨g_x0, 0, none⟩) a0.evs.length a0.evs.length) := (hb5.cell (p := ⟨w3.heap.size, 3, none⟩) xb0l).trans xb0_3
      replace xb0l := Nat.lt_of_lt_of_le xb0l hb5.size
      replace rb_g_0 : w5.cell? ⟨N_g, 0, none⟩ = some (.int .i64 (keepI (addB a0.id a0.series a0.made a0.evs (a1.1, a1.2)) a0.id)) := (hb5.cell (p := ⟨N_g, 0, none⟩) rb_gl).trans rb_g_0
      replace rb_g_1 : w5.cell? ⟨N_g, 1, none⟩ = some (.int .i64 (keepI (addB a0.id a0.series a0.made a0.evs (a1.1, a1.2)) a0.series)) := (hb5.cell (p := ⟨N_g, 1, none⟩) rb_gl).trans rb_g_1
      replace rb_g_2 : w5.cell? ⟨N_g, 2, none⟩ = some (.int .i64 (keepI (addB a0.id a0.series a0.made a0.evs (a1.1, a1.2)) a0.made)) := (hb5.cell (p := ⟨N_g, 2, none⟩) rb_gl).trans rb_g_2
      replace rb_g_3 : w5.cell? ⟨N_g, 3, none⟩ = some (.slice A_g (addL a0.id a0.series a0.made a0.evs (a1.1, a1.2)).length C_g) := (hb5.cell (p := ⟨N_g, 3, none⟩) rb_gl).trans rb_g_3
      replace rb_gl := Nat.lt_of_lt_of_le rb_gl hb5.size
      replace o_w := o_w.below (hb5.mono ble_w)
      replace ble_w := Nat.le_trans ble_w hb5.size
      replace o_x0 := o_x0.below hb5 o_x0.lt
      replace o_g := o_g.on hb5
      go_wp2_with fail
      have hk0 : Hid (∀ W, Below w5.heap.size w5 W → W.cell? ⟨w3.heap.size, 0, none⟩ = some (.int .i64 a0.id) ∧ W.cell? ⟨w3.heap.size, 1, none⟩ = some (.int .i64 a0.series) ∧ W.cell? ⟨w3.heap.size, 2, none⟩ = some (.int .i64 a0.made) ∧ W.cell? ⟨w3.heap.size, 3, none⟩ = some (.slice (some ⟨g_x0, 0, none⟩) a0.evs.length a0.evs.length) ∧ W.cell? ⟨w.heap.size, 0, none⟩ = some (.int .i64 a0.id) ∧ W.cell? ⟨w.heap.size, 1, none⟩ = some (.int .i64 a0.series) ∧ W.cell? ⟨w.heap.size, 2, none⟩ = some (.int .i64 a0.made) ∧ W.cell? ⟨w.heap.size, 3, none⟩ = some (.slice a0.A a0.evs.length a0.c)) := fun W hb => ⟨(hb.cell (p := ⟨_, _, _⟩) xb0l).trans xb0_0, (hb.cell (p := ⟨_, _, _⟩) xb0l).trans xb0_1, (hb.cell (p := ⟨_, _, _⟩) xb0l).trans xb0_2, (hb.cell (p := ⟨_, _, _⟩) xb0l).trans xb0_3, (hb.cell (p := ⟨_, _, _⟩) bl0).trans bx0_0, (hb.cell (p := ⟨_, _, _⟩) bl0).trans bx0_1, (hb.cell (p := ⟨_, _, _⟩) bl0).trans bx0_2, (hb.cell (p := ⟨_, _, _⟩) bl0).trans bx0_3⟩
      have o_d0 : Own w5.drew g_x0 34 encEv 2 a0.evs := o_x0
      go_region_held3 (fun W => W.cell? ⟨w3.heap.size, 0, none⟩ = some (.int .i64 a0.id) ∧ W.cell? ⟨w3.heap.size, 1, none⟩ = some (.int .i64 a0.series) ∧ W.cell? ⟨w3.heap.size, 2, none⟩ = some (.int .i64 a0.made) ∧ W.cell? ⟨w3.heap.size, 3, none⟩ = some (.slice (some ⟨g_x0, 0, none⟩) a0.evs.length a0.evs.length) ∧ W.cell? ⟨w.heap.size, 0, none⟩ = some (.int .i64 a0.id) ∧ W.cell? ⟨w.heap.size, 1, none⟩ = some (.int .i64 a0.series) ∧ W.cell? ⟨w.heap.size, 2, none⟩ = some (.int .i64 a0.made) ∧ W.cell? ⟨w.heap.size, 3, none⟩ = some (.slice a0.A a0.evs.length a0.c))
        (first | exact hk0.out _ (Below.refl _ w5).drew | exact hk0.out _ ((Below.refl _ w5).drew.trans hb6) | exact hk0.out _ (blw ((Below.refl _ w5).drew.trans hb6) hb7))
        (first | (go_at_call 7; refine (toRecord_any _ _ _ _ _ a0.evs _ ((hl0.below h5.drew).more h5.size) hn0).mono ?_; rintro e w6 ⟨g_t0, gl_t0, rfl, o_t0, hb6⟩) | (go_at_call 10; refine (eqRecord_any _ _ _ _ _ _ _ a0.evs _ ((o_d0.below hb6 o_d0.lt).ls encEv_len) (o_t0.ls encEv_len) (by omega)).mono ?_; rintro e w7 ⟨rfl, hb7⟩))
      have hb67 : Below w5.heap.size w5 w7 := blw ((Below.refl _ w5).drew.trans hb6) hb7
      clear o_d0 hk0
      have h7 := blw h5 hb67
      have z7 := hb67.size
      replace bx0_0 : w7.cell? ⟨w.heap.size, 0, none⟩ = some (.int .i64 a0.id) := (hb67.cell (p := ⟨w.heap.size, 0, none⟩) bl0).trans bx0_0
      replace bx0_1 : w7.cell? ⟨w.heap.size, 1, none⟩ = some (.int .i64 a0.series) := (hb67.cell (p := ⟨w.heap.size, 1, none⟩) bl0).trans bx0_1
      replace bx0_2 : w7.cell? ⟨w.heap.size, 2, none⟩ = some (.int .i64 a0.made) := (hb67.cell (p := ⟨w.heap.size, 2, none⟩) bl0).trans bx0_2
      replace bx0_3 : w7.cell? ⟨w.heap.size, 3, none⟩ = some (.slice a0.A a0.evs.length a0.c) := (hb67.cell (p := ⟨w.heap.size, 3, none⟩) bl0).trans bx0_3
      replace bl0 := Nat.lt_of_lt_of_le bl0 hb67.size
      replace bx1_0 : w7.cell? ⟨w.heap.size + 1, 0, none⟩ = some (.int .i64 a1.1) := (hb67.cell (p := ⟨w.heap.size + 1, 0, none⟩) bl1).trans bx1_0
      replace bx1_1 : w7.cell? ⟨w.heap.size + 1, 1, none⟩ = some (.int .i64 a1.2) := (hb67.cell (p := ⟨w.heap.size + 1, 1, none⟩) bl1).trans bx1_1
      replace bl1 := Nat.lt_of_lt_of_le bl1 hb67.size
      replace rb_w_0 : w7.cell? ⟨N_w, 0, none⟩ = some (.int .i64 (keepI (addB a0.id a0.series a0.made a0.evs (a1.1, a1.2)) a0.id)) := (hb67.cell (p := ⟨N_w, 0, none⟩) rb_wl).trans rb_w_0
      replace rb_w_1 : w7.cell? ⟨N_w, 1, none⟩ = some (.int .i64 (keepI (addB a0.id a0.series a0.made a0.evs (a1.1, a1.2)) a0.series)) := (hb67.cell (p := ⟨N_w, 1, none⟩) rb_wl).trans rb_w_1
      replace rb_w_2 : w7.cell? ⟨N_w, 2, none⟩ = some (.int .i64 (keepI (addB a0.id a0.series a0.made a0.evs (a1.1, a1.2)) a0.made)) := (hb67.cell (p := ⟨N_w, 2, none⟩) rb_wl).trans rb_w_2
      replace rb_w_3 : w7.cell? ⟨N_w, 3, none⟩ = some (.slice A_w (addL a0.id a0.series a0.made a0.evs (a1.1, a1.2)).length C_w) := (hb67.cell (p := ⟨N_w, 3, none⟩) rb_wl).trans rb_w_3
      replace rb_wl := Nat.lt_of_lt_of_le rb_wl hb67.size
      replace xb0_0 : w7.cell? ⟨w3.heap.size, 0, none⟩ = some (.int .i64 a0.id) := (hb67.cell (p := ⟨w3.heap.size, 0, none⟩) xb0l).trans xb0_0
      replace xb0_1 : w7.cell? ⟨w3.heap.size, 1, none⟩ = some (.int .i64 a0.series) := (hb67.cell (p := ⟨w3.heap.size, 1, none⟩) xb0l).trans xb0_1
      replace xb0_2 : w7.cell? ⟨w3.heap.size, 2, none⟩ = some (.int .i64 a0.made) := (hb67.cell (p := ⟨w3.heap.size, 2, none⟩) xb0l).trans xb0_2
      replace xb0_3 : w7.cell? ⟨w3.heap.size, 3, none⟩ = some (.slice (some ⟨g_x0, 0, none⟩) a0.evs.length a0.evs.length) := (hb67.cell (p := ⟨w3.heap.size, 3, none⟩) xb0l).trans xb0_3
      replace xb0l := Nat.lt_of_lt_of_le xb0l hb67.size
      replace rb_g_0 : w7.cell? ⟨N_g, 0, none⟩ = some (.int .i64 (keepI (addB a0.id a0.series a0.made a0.evs (a1.1, a1.2)) a0.id)) := (hb67.cell (p := ⟨N_g, 0, none⟩) rb_gl).trans rb_g_0
      replace rb_g_1 : w7.cell? ⟨N_g, 1, none⟩ = some (.int .i64 (keepI (addB a0.id a0.series a0.made a0.evs (a1.1, a1.2)) a0.series)) := (hb67.cell (p := ⟨N_g, 1, none⟩) rb_gl).trans rb_g_1
      replace rb_g_2 : w7.cell? ⟨N_g, 2, none⟩ = some (.int .i64 (keepI (addB a0.id a0.series a0.made a0.evs (a1.1, a1.2)) a0.made)) := (hb67.cell (p := ⟨N_g, 2, none⟩) rb_gl).trans rb_g_2
      replace rb_g_3 : w7.cell? ⟨N_g, 3, none⟩ = some (.slice A_g (addL a0.id a0.series a0.made a0.evs (a1.1, a1.2)).length C_g) := (hb67.cell (p := ⟨N_g, 3, none⟩) rb_gl).trans rb_g_3
      replace rb_gl := Nat.lt_of_lt_of_le rb_gl hb67.size
      replace o_w := o_w.below (hb67.mono ble_w)
      replace ble_w := Nat.le_trans ble_w hb67.size
      replace o_x0 := o_x0.below hb67 o_x0.lt
      replace o_g := o_g.on hb67
      go_wp2_with fail
      refine (markRecord_any _ _ _ _ _ a0.evs.length _ _ o_x0.row1 hn0 (by omega) (by omega)).mono ?_
      rintro e w8 ⟨rfl, hw8, _⟩
      have hS8 : ∀ b, blkOf (some ⟨g_x0, 0, none⟩) b → g_x0 ≤ b := fun b hb => by obtain ⟨q, hq⟩ := hb; simp at hq <;> omega
      have h8 := h7.trans (hw8.below h7.size (fun b hb => Nat.le_trans (by have := h0.size; omega) (hS8 b hb)))
      have z8 := hw8.size
      replace bx0_0 : w8.cell? ⟨w.heap.size, 0, none⟩ = some (.int .i64 a0.id) := (hw8.cell (k := w.heap.size) (o := 0) bl0 (fun hS => by obtain ⟨q, hq⟩ := hS; simp at hq <;> omega)).trans bx0_0
      replace bx0_1 : w8.cell? ⟨w.heap.size, 1, none⟩ = some (.int .i64 a0.series) := (hw8.cell (k := w.heap.size) (o := 1) bl0 (fun hS => by obtain ⟨q, hq⟩ := hS; simp at hq <;> omega)).trans bx0_1
      replace bx0_2 : w8.cell? ⟨w.heap.size, 2, none⟩ = some (.int .i64 a0.made) := (hw8.cell (k := w.heap.size) (o := 2) bl0 (fun hS => by obtain ⟨q, hq⟩ := hS; simp at hq <;> omega)).trans bx0_2
      replace bx0_3 : w8.cell? ⟨w.heap.size, 3, none⟩ = some (.slice a0.A a0.evs.length a0.c) := (hw8.cell (k := w.heap.size) (o := 3) bl0 (fun hS => by obtain ⟨q, hq⟩ := hS; simp at hq <;> omega)).trans bx0_3
      replace bl0 := Nat.lt_of_lt_of_le bl0 hw8.size
      replace bx1_0 : w8.cell? ⟨w.heap.size + 1, 0, none⟩ = some (.int .i64 a1.1) := (hw8.cell (k := w.heap.size + 1) (o := 0) bl1 (fun hS => by obtain ⟨q, hq⟩ := hS; simp at hq <;> omega)).trans bx1_0
      replace bx1_1 : w8.cell? ⟨w.heap.size + 1, 1, none⟩ = some (.int .i64 a1.2) := (hw8.cell (k := w.heap.size + 1) (o := 1) bl1 (fun hS => by obtain ⟨q, hq⟩ := hS; simp at hq <;> omega)).trans bx1_1
      replace bl1 := Nat.lt_of_lt_of_le bl1 hw8.size
      replace rb_w_0 : w8.cell? ⟨N_w, 0, none⟩ = some (.int .i64 (keepI (addB a0.id a0.series a0.made a0.evs (a1.1, a1.2)) a0.id)) := (hw8.cell (k := N_w) (o := 0) rb_wl (fun hS => by obtain ⟨q, hq⟩ := hS; simp at hq <;> omega)).trans rb_w_0
      replace rb_w_1 : w8.cell? ⟨N_w, 1, none⟩ = some (.int .i64 (keepI (addB a0.id a0.series a0.made a0.evs (a1.1, a1.2)) a0.series)) := (hw8.cell (k := N_w) (o := 1) rb_wl (fun hS => by obtain ⟨q, hq⟩ := hS; simp at hq <;> omega)).trans rb_w_1
      replace rb_w_2 : w8.cell? ⟨N_w, 2, none⟩ = some (.int .i64 (keepI (addB a0.id a0.series a0.made a0.evs (a1.1, a1.2)) a0.made)) := (hw8.cell (k := N_w) (o := 2) rb_wl (fun hS => by obtain ⟨q, hq⟩ := hS; simp at hq <;> omega)).trans rb_w_2
      replace rb_w_3 : w8.cell? ⟨N_w, 3, none⟩ = some (.slice A_w (addL a0.id a0.series a0.made a0.evs (a1.1, a1.2)).length C_w) := (hw8.cell (k := N_w) (o := 3) rb_wl (fun hS => by obtain ⟨q, hq⟩ := hS; simp at hq <;> omega)).trans rb_w_3
      replace rb_wl := Nat.lt_of_lt_of_le rb_wl hw8.size
      replace xb0_0 : w8.cell? ⟨w3.heap.size, 0, none⟩ = some (.int .i64 a0.id) := (hw8.cell (k := w3.heap.size) (o := 0) xb0l (fun hS => by obtain ⟨q, hq⟩ := hS; simp at hq <;> omega)).trans xb0_0
      replace xb0_1 : w8.cell? ⟨w3.heap.size, 1, none⟩ = some (.int .i64 a0.series) := (hw8.cell (k := w3.heap.size) (o := 1) xb0l (fun hS => by obtain ⟨q, hq⟩ := hS; simp at hq <;> omega)).trans xb0_1
      replace xb0_2 : w8.cell? ⟨w3.heap.size, 2, none⟩ = some (.int .i64 a0.made) := (hw8.cell (k := w3.heap.size) (o := 2) xb0l (fun hS => by obtain ⟨q, hq⟩ := hS; simp at hq <;> omega)).trans xb0_2
      replace xb0_3 : w8.cell? ⟨w3.heap.size, 3, none⟩ = some (.slice (some ⟨g_x0, 0, none⟩) a0.evs.length a0.evs.length) := (hw8.cell (k := w3.heap.size) (o := 3) xb0l (fun hS => by obtain ⟨q, hq⟩ := hS; simp at hq <;> omega)).trans xb0_3
      replace xb0l := Nat.lt_of_lt_of_le xb0l hw8.size
      replace rb_g_0 : w8.cell? ⟨N_g, 0, none⟩ = some (.int .i64 (keepI (addB a0.id a0.series a0.made a0.evs (a1.1, a1.2)) a0.id)) := (hw8.cell (k := N_g) (o := 0) rb_gl (fun hS => by obtain ⟨q, hq⟩ := hS; simp at hq <;> omega)).trans rb_g_0
      replace rb_g_1 : w8.cell? ⟨N_g, 1, none⟩ = some (.int .i64 (keepI (addB a0.id a0.series a0.made a0.evs (a1.1, a1.2)) a0.series)) := (hw8.cell (k := N_g) (o := 1) rb_gl (fun hS => by obtain ⟨q, hq⟩ := hS; simp at hq <;> omega)).trans rb_g_1
      replace rb_g_2 : w8.cell? ⟨N_g, 2, none⟩ = some (.int .i64 (keepI (addB a0.id a0.series a0.made a0.evs (a1.1, a1.2)) a0.made)) := (hw8.cell (k := N_g) (o := 2) rb_gl (fun hS => by obtain ⟨q, hq⟩ := hS; simp at hq <;> omega)).trans rb_g_2
      replace rb_g_3 : w8.cell? ⟨N_g, 3, none⟩ = some (.slice A_g (addL a0.id a0.series a0.made a0.evs (a1.1, a1.2)).length C_g) := (hw8.cell (k := N_g) (o := 3) rb_gl (fun hS => by obtain ⟨q, hq⟩ := hS; simp at hq <;> omega)).trans rb_g_3
      replace rb_gl := Nat.lt_of_lt_of_le rb_gl hw8.size
      replace o_w := o_w.wr hw8 (fun b hb => by have := hS8 b hb; omega) ble_w
      replace ble_w := Nat.le_trans ble_w hw8.size
      replace o_g := o_g.wr_up hw8 (fun b hb hS => by obtain ⟨q, hq⟩ := hS; simp at hq <;> omega)
      go_wp2_with fail
      refine (eqRecord_any _ _ _ _ _ _ _ (addL a0.id a0.series a0.made a0.evs (a1.1, a1.2)) _ (o_g.ls encEv_len) (o_w.more ble_w) (by have := addL_le a0.id a0.series a0.made a0.evs (a1.1, a1.2); omega)).mono ?_
      rintro e w9 ⟨rfl, hb9⟩
      have h9 := blw h8 hb9
      have z9 := hb9.size
      replace bx0_0 : w9.cell? ⟨w.heap.size, 0, none⟩ = some (.int .i64 a0.id) := (hb9.cell (p := ⟨w.heap.size, 0, none⟩) bl0).trans bx0_0
      replace bx0_1 : w9.cell? ⟨w.heap.size, 1, none⟩ = some (.int .i64 a0.series) := (hb9.cell (p := ⟨w.heap.size, 1, none⟩) bl0).trans bx0_1
      replace bx0_2 : w9.cell? ⟨w.heap.size, 2, none⟩ = some (.int .i64 a0.made) := (hb9.cell (p := ⟨w.heap.size, 2, none⟩) bl0).trans bx0_2
      replace bx0_3 : w9.cell? ⟨w.heap.size, 3, none⟩ = some (.slice a0.A a0.evs.length a0.c) := (hb9.cell (p := ⟨w.heap.size, 3, none⟩) bl0).trans bx0_3
      replace bl0 := Nat.lt_of_lt_of_le bl0 hb9.size
      replace bx1_0 : w9.cell? ⟨w.heap.size + 1, 0, none⟩ = some (.int .i64 a1.1) := (hb9.cell (p := ⟨w.heap.size + 1, 0, none⟩) bl1).trans bx1_0
      replace bx1_1 : w9.cell? ⟨w.heap.size + 1, 1, none⟩ = some (.int .i64 a1.2) := (hb9.cell (p := ⟨w.heap.size + 1, 1, none⟩) bl1).trans bx1_1
      replace bl1 := Nat.lt_of_lt_of_le bl1 hb9.size
      replace rb_w_0 : w9.cell? ⟨N_w, 0, none⟩ = some (.int .i64 (keepI (addB a0.id a0.series a0.made a0.evs (a1.1, a1.2)) a0.id)) := (hb9.cell (p := ⟨N_w, 0, none⟩) rb_wl).trans rb_w_0
      replace rb_w_1 : w9.cell? ⟨N_w, 1, none⟩ = some (.int .i64 (keepI (addB a0.id a0.series a0.made a0.evs (a1.1, a1.2)) a0.series)) := (hb9.cell (p := ⟨N_w, 1, none⟩) rb_wl).trans rb_w_1
      replace rb_w_2 : w9.cell? ⟨N_w, 2, none⟩ = some (.int .i64 (keepI (addB a0.id a0.series a0.made a0.evs (a1.1, a1.2)) a0.made)) := (hb9.cell (p := ⟨N_w, 2, none⟩) rb_wl).trans rb_w_2
      replace rb_w_3 : w9.cell? ⟨N_w, 3, none⟩ = some (.slice A_w (addL a0.id a0.series a0.made a0.evs (a1.1, a1.2)).length C_w) := (hb9.cell (p := ⟨N_w, 3, none⟩) rb_wl).trans rb_w_3
      replace rb_wl := Nat.lt_of_lt_of_le rb_wl hb9.size
      replace xb0_0 : w9.cell? ⟨w3.heap.size, 0, none⟩ = some (.int .i64 a0.id) := (hb9.cell (p := ⟨w3.heap.size, 0, none⟩) xb0l).trans xb0_0
      replace xb0_1 : w9.cell? ⟨w3.heap.size, 1, none⟩ = some (.int .i64 a0.series) := (hb9.cell (p := ⟨w3.heap.size, 1, none⟩) xb0l).trans xb0_1
      replace xb0_2 : w9.cell? ⟨w3.heap.size, 2, none⟩ = some (.int .i64 a0.made) := (hb9.cell (p := ⟨w3.heap.size, 2, none⟩) xb0l).trans xb0_2
      replace xb0_3 : w9.cell? ⟨w3.heap.size, 3, none⟩ = some (.slice (some ⟨g_x0, 0, none⟩) a0.evs.length a0.evs.length) := (hb9.cell (p := ⟨w3.heap.size, 3, none⟩) xb0l).trans xb0_3
      replace xb0l := Nat.lt_of_lt_of_le xb0l hb9.size
      replace rb_g_0 : w9.cell? ⟨N_g, 0, none⟩ = some (.int .i64 (keepI (addB a0.id a0.series a0.made a0.evs (a1.1, a1.2)) a0.id)) := (hb9.cell (p := ⟨N_g, 0, none⟩) rb_gl).trans rb_g_0
      replace rb_g_1 : w9.cell? ⟨N_g, 1, none⟩ = some (.int .i64 (keepI (addB a0.id a0.series a0.made a0.evs (a1.1, a1.2)) a0.series)) := (hb9.cell (p := ⟨N_g, 1, none⟩) rb_gl).trans rb_g_1
      replace rb_g_2 : w9.cell? ⟨N_g, 2, none⟩ = some (.int .i64 (keepI (addB a0.id a0.series a0.made a0.evs (a1.1, a1.2)) a0.made)) := (hb9.cell (p := ⟨N_g, 2, none⟩) rb_gl).trans rb_g_2
      replace rb_g_3 : w9.cell? ⟨N_g, 3, none⟩ = some (.slice A_g (addL a0.id a0.series a0.made a0.evs (a1.1, a1.2)).length C_g) := (hb9.cell (p := ⟨N_g, 3, none⟩) rb_gl).trans rb_g_3
      replace rb_gl := Nat.lt_of_lt_of_le rb_gl hb9.size
      replace o_w := o_w.below (hb9.mono ble_w)
      replace ble_w := Nat.le_trans ble_w hb9.size
      replace o_g := o_g.on hb9
      have hr_g := o_g.row1
      go_wp2_with fail
      refine (markRecord_any _ _ _ _ _ _ _ _ hr_g (by have := addL_le a0.id a0.series a0.made a0.evs (a1.1, a1.2); omega) (by omega) (by omega)).mono ?_
      rintro e w10 ⟨rfl, hw10, o_m⟩
      have hS10 : ∀ b, blkOf A_g b → Bg ≤ b := fun b hb => (o_g.block hb).1
      have h10 := h9.trans (hw10.below h9.size (fun b hb => Nat.le_trans gw_g (hS10 b hb)))
      have z10 := hw10.size
      replace bx0_0 : w10.cell? ⟨w.heap.size, 0, none⟩ = some (.int .i64 a0.id) := (hw10.cell (k := w.heap.size) (o := 0) bl0 (fun hS => by have := hS10 _ hS; have := ub_g _ hS; omega)).trans bx0_0
      replace bx0_1 : w10.cell? ⟨w.heap.size, 1, none⟩ = some (.int .i64 a0.series) := (hw10.cell (k := w.heap.size) (o := 1) bl0 (fun hS => by have := hS10 _ hS; have := ub_g _ hS; omega)).trans bx0_1
      replace bx0_2 : w10.cell? ⟨w.heap.size, 2, none⟩ = some (.int .i64 a0.made) := (hw10.cell (k := w.heap.size) (o := 2) bl0 (fun hS => by have := hS10 _ hS; have := ub_g _ hS; omega)).trans bx0_2
      replace bx0_3 : w10.cell? ⟨w.heap.size, 3, none⟩ = some (.slice a0.A a0.evs.length a0.c) := (hw10.cell (k := w.heap.size) (o := 3) bl0 (fun hS => by have := hS10 _ hS; have := ub_g _ hS; omega)).trans bx0_3
      replace bl0 := Nat.lt_of_lt_of_le bl0 hw10.size
      replace bx1_0 : w10.cell? ⟨w.heap.size + 1, 0, none⟩ = some (.int .i64 a1.1) := (hw10.cell (k := w.heap.size + 1) (o := 0) bl1 (fun hS => by have := hS10 _ hS; have := ub_g _ hS; omega)).trans bx1_0
      replace bx1_1 : w10.cell? ⟨w.heap.size + 1, 1, none⟩ = some (.int .i64 a1.2) := (hw10.cell (k := w.heap.size + 1) (o := 1) bl1 (fun hS => by have := hS10 _ hS; have := ub_g _ hS; omega)).trans bx1_1
      replace bl1 := Nat.lt_of_lt_of_le bl1 hw10.size
      replace rb_w_0 : w10.cell? ⟨N_w, 0, none⟩ = some (.int .i64 (keepI (addB a0.id a0.series a0.made a0.evs (a1.1, a1.2)) a0.id)) := (hw10.cell (k := N_w) (o := 0) rb_wl (fun hS => by have := hS10 _ hS; have := ub_g _ hS; omega)).trans rb_w_0
      replace rb_w_1 : w10.cell? ⟨N_w, 1, none⟩ = some (.int .i64 (keepI (addB a0.id a0.series a0.made a0.evs (a1.1, a1.2)) a0.series)) := (hw10.cell (k := N_w) (o := 1) rb_wl (fun hS => by have := hS10 _ hS; have := ub_g _ hS; omega)).trans rb_w_1
      replace rb_w_2 : w10.cell? ⟨N_w, 2, none⟩ = some (.int .i64 (keepI (addB a0.id a0.series a0.made a0.evs (a1.1, a1.2)) a0.made)) := (hw10.cell (k := N_w) (o := 2) rb_wl (fun hS => by have := hS10 _ hS; have := ub_g _ hS; omega)).trans rb_w_2
      replace rb_w_3 : w10.cell? ⟨N_w, 3, none⟩ = some (.slice A_w (addL a0.id a0.series a0.made a0.evs (a1.1, a1.2)).length C_w) := (hw10.cell (k := N_w) (o := 3) rb_wl (fun hS => by have := hS10 _ hS; have := ub_g _ hS; omega)).trans rb_w_3
      replace rb_wl := Nat.lt_of_lt_of_le rb_wl hw10.size
      replace xb0_0 : w10.cell? ⟨w3.heap.size, 0, none⟩ = some (.int .i64 a0.id) := (hw10.cell (k := w3.heap.size) (o := 0) xb0l (fun hS => by have := hS10 _ hS; have := ub_g _ hS; omega)).trans xb0_0
      replace xb0_1 : w10.cell? ⟨w3.heap.size, 1, none⟩ = some (.int .i64 a0.series) := (hw10.cell (k := w3.heap.size) (o := 1) xb0l (fun hS => by have := hS10 _ hS; have := ub_g _ hS; omega)).trans xb0_1
      replace xb0_2 : w10.cell? ⟨w3.heap.size, 2, none⟩ = some (.int .i64 a0.made) := (hw10.cell (k := w3.heap.size) (o := 2) xb0l (fun hS => by have := hS10 _ hS; have := ub_g _ hS; omega)).trans xb0_2
      replace xb0_3 : w10.cell? ⟨w3.heap.size, 3, none⟩ = some (.slice (some ⟨g_x0, 0, none⟩) a0.evs.length a0.evs.length) := (hw10.cell (k := w3.heap.size) (o := 3) xb0l (fun hS => by have := hS10 _ hS; have := ub_g _ hS; omega)).trans xb0_3
      replace xb0l := Nat.lt_of_lt_of_le xb0l hw10.size
      replace rb_g_0 : w10.cell? ⟨N_g, 0, none⟩ = some (.int .i64 (keepI (addB a0.id a0.series a0.made a0.evs (a1.1, a1.2)) a0.id)) := (hw10.cell (k := N_g) (o := 0) rb_gl (fun hS => by exact hne_g hS)).trans rb_g_0
      replace rb_g_1 : w10.cell? ⟨N_g, 1, none⟩ = some (.int .i64 (keepI (addB a0.id a0.series a0.made a0.evs (a1.1, a1.2)) a0.series)) := (hw10.cell (k := N_g) (o := 1) rb_gl (fun hS => by exact hne_g hS)).trans rb_g_1
      replace rb_g_2 : w10.cell? ⟨N_g, 2, none⟩ = some (.int .i64 (keepI (addB a0.id a0.series a0.made a0.evs (a1.1, a1.2)) a0.made)) := (hw10.cell (k := N_g) (o := 2) rb_gl (fun hS => by exact hne_g hS)).trans rb_g_2
      replace rb_g_3 : w10.cell? ⟨N_g, 3, none⟩ = some (.slice A_g (addL a0.id a0.series a0.made a0.evs (a1.1, a1.2)).length C_g) := (hw10.cell (k := N_g) (o := 3) rb_gl (fun hS => by exact hne_g hS)).trans rb_g_3
      replace rb_gl := Nat.lt_of_lt_of_le rb_gl hw10.size
      replace o_w := o_w.wr hw10 (fun b hb => by have := hS10 b hb; omega) ble_w
      replace ble_w := Nat.le_trans ble_w hw10.size
      go_wp2_with fail
      refine (heldRecord_any _ _ _ _ _ _ _ _ o_m (by have := addL_le a0.id a0.series a0.made a0.evs (a1.1, a1.2); omega) (by omega) (by omega)).mono ?_
      rintro e w11 ⟨rfl, hb11⟩
      have h11 := blw h10 hb11
      have z11 := hb11.size
      replace bx0_0 : w11.cell? ⟨w.heap.size, 0, none⟩ = some (.int .i64 a0.id) := (hb11.cell (p := ⟨w.heap.size, 0, none⟩) bl0).trans bx0_0
      replace bx0_1 : w11.cell? ⟨w.heap.size, 1, none⟩ = some (.int .i64 a0.series) := (hb11.cell (p := ⟨w.heap.size, 1, none⟩) bl0).trans bx0_1
      replace bx0_2 : w11.cell? ⟨w.heap.size, 2, none⟩ = some (.int .i64 a0.made) := (hb11.cell (p := ⟨w.heap.size, 2, none⟩) bl0).trans bx0_2
      replace bx0_3 : w11.cell? ⟨w.heap.size, 3, none⟩ = some (.slice a0.A a0.evs.length a0.c) := (hb11.cell (p := ⟨w.heap.size, 3, none⟩) bl0).trans bx0_3
      replace bl0 := Nat.lt_of_lt_of_le bl0 hb11.size
      replace bx1_0 : w11.cell? ⟨w.heap.size + 1, 0, none⟩ = some (.int .i64 a1.1) := (hb11.cell (p := ⟨w.heap.size + 1, 0, none⟩) bl1).trans bx1_0
      replace bx1_1 : w11.cell? ⟨w.heap.size + 1, 1, none⟩ = some (.int .i64 a1.2) := (hb11.cell (p := ⟨w.heap.size + 1, 1, none⟩) bl1).trans bx1_1
      replace bl1 := Nat.lt_of_lt_of_le bl1 hb11.size
      replace rb_w_0 : w11.cell? ⟨N_w, 0, none⟩ = some (.int .i64 (keepI (addB a0.id a0.series a0.made a0.evs (a1.1, a1.2)) a0.id)) := (hb11.cell (p := ⟨N_w, 0, none⟩) rb_wl).trans rb_w_0
      replace rb_w_1 : w11.cell? ⟨N_w, 1, none⟩ = some (.int .i64 (keepI (addB a0.id a0.series a0.made a0.evs (a1.1, a1.2)) a0.series)) := (hb11.cell (p := ⟨N_w, 1, none⟩) rb_wl).trans rb_w_1
      replace rb_w_2 : w11.cell? ⟨N_w, 2, none⟩ = some (.int .i64 (keepI (addB a0.id a0.series a0.made a0.evs (a1.1, a1.2)) a0.made)) := (hb11.cell (p := ⟨N_w, 2, none⟩) rb_wl).trans rb_w_2
      replace rb_w_3 : w11.cell? ⟨N_w, 3, none⟩ = some (.slice A_w (addL a0.id a0.series a0.made a0.evs (a1.1, a1.2)).length C_w) := (hb11.cell (p := ⟨N_w, 3, none⟩) rb_wl).trans rb_w_3
      replace rb_wl := Nat.lt_of_lt_of_le rb_wl hb11.size
      replace xb0_0 : w11.cell? ⟨w3.heap.size, 0, none⟩ = some (.int .i64 a0.id) := (hb11.cell (p := ⟨w3.heap.size, 0, none⟩) xb0l).trans xb0_0
      replace xb0_1 : w11.cell? ⟨w3.heap.size, 1, none⟩ = some (.int .i64 a0.series) := (hb11.cell (p := ⟨w3.heap.size, 1, none⟩) xb0l).trans xb0_1
      replace xb0_2 : w11.cell? ⟨w3.heap.size, 2, none⟩ = some (.int .i64 a0.made) := (hb11.cell (p := ⟨w3.heap.size, 2, none⟩) xb0l).trans xb0_2
      replace xb0_3 : w11.cell? ⟨w3.heap.size, 3, none⟩ = some (.slice (some ⟨g_x0, 0, none⟩) a0.evs.length a0.evs.length) := (hb11.cell (p := ⟨w3.heap.size, 3, none⟩) xb0l).trans xb0_3
      replace xb0l := Nat.lt_of_lt_of_le xb0l hb11.size
      replace rb_g_0 : w11.cell? ⟨N_g, 0, none⟩ = some (.int .i64 (keepI (addB a0.id a0.series a0.made a0.evs (a1.1, a1.2)) a0.id)) := (hb11.cell (p := ⟨N_g, 0, none⟩) rb_gl).trans rb_g_0
      replace rb_g_1 : w11.cell? ⟨N_g, 1, none⟩ = some (.int .i64 (keepI (addB a0.id a0.series a0.made a0.evs (a1.1, a1.2)) a0.series)) := (hb11.cell (p := ⟨N_g, 1, none⟩) rb_gl).trans rb_g_1
      replace rb_g_2 : w11.cell? ⟨N_g, 2, none⟩ = some (.int .i64 (keepI (addB a0.id a0.series a0.made a0.evs (a1.1, a1.2)) a0.made)) := (hb11.cell (p := ⟨N_g, 2, none⟩) rb_gl).trans rb_g_2
      replace rb_g_3 : w11.cell? ⟨N_g, 3, none⟩ = some (.slice A_g (addL a0.id a0.series a0.made a0.evs (a1.1, a1.2)).length C_g) := (hb11.cell (p := ⟨N_g, 3, none⟩) rb_gl).trans rb_g_3
      replace rb_gl := Nat.lt_of_lt_of_le rb_gl hb11.size
      replace o_w := o_w.below (hb11.mono ble_w)
      replace ble_w := Nat.le_trans ble_w hb11.size
      replace o_m := (o_m.below hb11).more hb11.size
      go_wp2_with fail
      rename_i K0 hK0
      have HT12 : Hid (∀ (u0 u1 u5 u11 u13 u16 u17 u18 u19 u20 u21 u22 u23 u24 u25 u26 u27 u28 u29 u30 u31 u32 u33 u34 u35 u36 u37 u38 u39 u40 u41 u42 u43 u44 u45 u46 u47 u48 u49 u50 u51 u52 u53 u54 u55 u56 u57 u58 u59 u60 u61 u62 u63 u64 u65 u66 u67 u68 u69 u70 u71 u72 u73 u74 u75 u76 u77 u78 u79 u80 u81 u82 u83 u84 u85 u86 u87 u88 u89 u90 u91 u92 u93 u94 u95 u96 u97 u98 u99 u100 u101 u102 u103 : Value) (A_h : Option Addr) (C_h N_h : Nat) (w12 : World), Below w11.heap.size w11 w12 → Vec w12 w11.heap.size 34 encEv 2 (.slice A_h (addL a0.id a0.series a0.made a0.evs (a1.1, a1.2)).length C_h) (addL a0.id a0.series a0.made a0.evs (a1.1, a1.2)) → Blk w12 N_h 30 #[.int .i64 (keepI (addB a0.id a0.series a0.made a0.evs (a1.1, a1.2)) a0.id), .int .i64 (keepI (addB a0.id a0.series a0.made a0.evs (a1.1, a1.2)) a0.series), .int .i64 (keepI (addB a0.id a0.series a0.made a0.evs (a1.1, a1.2)) a0.made), .slice A_h (addL a0.id a0.series a0.made a0.evs (a1.1, a1.2)).length C_h] → w11.heap.size ≤ N_h → K0 { tmps := #[u0, u1, .pointer (some ⟨w.heap.size, 0, none⟩), .pointer (some ⟨w.heap.size + 1, 0, none⟩), .bool false, u5, .pointer (some ⟨N_w, 0, none⟩), .bool (addB a0.id a0.series a0.made a0.evs (a1.1, a1.2)), .pointer (some ⟨w3.heap.size, 0, none⟩), .pointer (some ⟨N_g, 0, none⟩), .bool (addB a0.id a0.series a0.made a0.evs (a1.1, a1.2)), u11, .int .i64 (1 + 2 * ((addL a0.id a0.series a0.made a0.evs (a1.1, a1.2)).length : Int)), u13, .pointer (some ⟨N_h, 0, none⟩), .bool (addB a0.id a0.series a0.made a0.evs (a1.1, a1.2)), u16, u17, u18, u19, u20, u21, u22, u23, u24, u25, u26, u27, u28, u29, u30, u31, u32, u33, u34, u35, u36, u37, u38, u39, u40, u41, u42, u43, u44, u45, u46, u47, u48, u49, u50, u51, u52, u53, u54, u55, u56, u57, u58, u59, u60, u61, u62, u63, u64, u65, u66, u67, u68, u69, u70, u71, u72, u73, u74, u75, u76, u77, u78, u79, u80, u81, u82, u83, u84, u85, u86, u87, u88, u89, u90, u91, u92, u93, u94, u95, u96, u97, u98, u99, u100, u101, u102, u103], defers := [] } w12) := by
        intro u0 u1 u5 u11 u13 u16 u17 u18 u19 u20 u21 u22 u23 u24 u25 u26 u27 u28 u29 u30 u31 u32 u33 u34 u35 u36 u37 u38 u39 u40 u41 u42 u43 u44 u45 u46 u47 u48 u49 u50 u51 u52 u53 u54 u55 u56 u57 u58 u59 u60 u61 u62 u63 u64 u65 u66 u67 u68 u69 u70 u71 u72 u73 u74 u75 u76 u77 u78 u79 u80 u81 u82 u83 u84 u85 u86 u87 u88 u89 u90 u91 u92 u93 u94 u95 u96 u97 u98 u99 u100 u101 u102 u103 A_h C_h N_h w12 hb12 o_h hbx hN12
        apply hK0
        clear hK0
        have h12 := blw h11 hb12
        have z12 := hb12.size
        replace bx0_0 : w12.cell? ⟨w.heap.size, 0, none⟩ = some (.int .i64 a0.id) := (hb12.cell (p := ⟨w.heap.size, 0, none⟩) bl0).trans bx0_0
        replace bx0_1 : w12.cell? ⟨w.heap.size, 1, none⟩ = some (.int .i64 a0.series) := (hb12.cell (p := ⟨w.heap.size, 1, none⟩) bl0).trans bx0_1
        replace bx0_2 : w12.cell? ⟨w.heap.size, 2, none⟩ = some (.int .i64 a0.made) := (hb12.cell (p := ⟨w.heap.size, 2, none⟩) bl0).trans bx0_2
        replace bx0_3 : w12.cell? ⟨w.heap.size, 3, none⟩ = some (.slice a0.A a0.evs.length a0.c) := (hb12.cell (p := ⟨w.heap.size, 3, none⟩) bl0).trans bx0_3
        replace bl0 := Nat.lt_of_lt_of_le bl0 hb12.size
        replace bx1_0 : w12.cell? ⟨w.heap.size + 1, 0, none⟩ = some (.int .i64 a1.1) := (hb12.cell (p := ⟨w.heap.size + 1, 0, none⟩) bl1).trans bx1_0
        replace bx1_1 : w12.cell? ⟨w.heap.size + 1, 1, none⟩ = some (.int .i64 a1.2) := (hb12.cell (p := ⟨w.heap.size + 1, 1, none⟩) bl1).trans bx1_1
        replace bl1 := Nat.lt_of_lt_of_le bl1 hb12.size
        replace rb_w_0 : w12.cell? ⟨N_w, 0, none⟩ = some (.int .i64 (keepI (addB a0.id a0.series a0.made a0.evs (a1.1, a1.2)) a0.id)) := (hb12.cell (p := ⟨N_w, 0, none⟩) rb_wl).trans rb_w_0
        replace rb_w_1 : w12.cell? ⟨N_w, 1, none⟩ = some (.int .i64 (keepI (addB a0.id a0.series a0.made a0.evs (a1.1, a1.2)) a0.series)) := (hb12.cell (p := ⟨N_w, 1, none⟩) rb_wl).trans rb_w_1
        replace rb_w_2 : w12.cell? ⟨N_w, 2, none⟩ = some (.int .i64 (keepI (addB a0.id a0.series a0.made a0.evs (a1.1, a1.2)) a0.made)) := (hb12.cell (p := ⟨N_w, 2, none⟩) rb_wl).trans rb_w_2
        replace rb_w_3 : w12.cell? ⟨N_w, 3, none⟩ = some (.slice A_w (addL a0.id a0.series a0.made a0.evs (a1.1, a1.2)).length C_w) := (hb12.cell (p := ⟨N_w, 3, none⟩) rb_wl).trans rb_w_3
        replace rb_wl := Nat.lt_of_lt_of_le rb_wl hb12.size
        replace xb0_0 : w12.cell? ⟨w3.heap.size, 0, none⟩ = some (.int .i64 a0.id) := (hb12.cell (p := ⟨w3.heap.size, 0, none⟩) xb0l).trans xb0_0
        replace xb0_1 : w12.cell? ⟨w3.heap.size, 1, none⟩ = some (.int .i64 a0.series) := (hb12.cell (p := ⟨w3.heap.size, 1, none⟩) xb0l).trans xb0_1
        replace xb0_2 : w12.cell? ⟨w3.heap.size, 2, none⟩ = some (.int .i64 a0.made) := (hb12.cell (p := ⟨w3.heap.size, 2, none⟩) xb0l).trans xb0_2
        replace xb0_3 : w12.cell? ⟨w3.heap.size, 3, none⟩ = some (.slice (some ⟨g_x0, 0, none⟩) a0.evs.length a0.evs.length) := (hb12.cell (p := ⟨w3.heap.size, 3, none⟩) xb0l).trans xb0_3
        replace xb0l := Nat.lt_of_lt_of_le xb0l hb12.size
        replace rb_g_0 : w12.cell? ⟨N_g, 0, none⟩ = some (.int .i64 (keepI (addB a0.id a0.series a0.made a0.evs (a1.1, a1.2)) a0.id)) := (hb12.cell (p := ⟨N_g, 0, none⟩) rb_gl).trans rb_g_0
        replace rb_g_1 : w12.cell? ⟨N_g, 1, none⟩ = some (.int .i64 (keepI (addB a0.id a0.series a0.made a0.evs (a1.1, a1.2)) a0.series)) := (hb12.cell (p := ⟨N_g, 1, none⟩) rb_gl).trans rb_g_1
        replace rb_g_2 : w12.cell? ⟨N_g, 2, none⟩ = some (.int .i64 (keepI (addB a0.id a0.series a0.made a0.evs (a1.1, a1.2)) a0.made)) := (hb12.cell (p := ⟨N_g, 2, none⟩) rb_gl).trans rb_g_2
        replace rb_g_3 : w12.cell? ⟨N_g, 3, none⟩ = some (.slice A_g (addL a0.id a0.series a0.made a0.evs (a1.1, a1.2)).length C_g) := (hb12.cell (p := ⟨N_g, 3, none⟩) rb_gl).trans rb_g_3
        replace rb_gl := Nat.lt_of_lt_of_le rb_gl hb12.size
        replace o_w := o_w.below (hb12.mono ble_w)
        replace ble_w := Nat.le_trans ble_w hb12.size
        replace o_m := (o_m.below hb12).more hb12.size
        have rb_h_0 : w12.cell? ⟨N_h, 0, none⟩ = some (.int .i64 (keepI (addB a0.id a0.series a0.made a0.evs (a1.1, a1.2)) a0.id)) := hbx.cell 0
        have rb_h_1 : w12.cell? ⟨N_h, 1, none⟩ = some (.int .i64 (keepI (addB a0.id a0.series a0.made a0.evs (a1.1, a1.2)) a0.series)) := hbx.cell 1
        have rb_h_2 : w12.cell? ⟨N_h, 2, none⟩ = some (.int .i64 (keepI (addB a0.id a0.series a0.made a0.evs (a1.1, a1.2)) a0.made)) := hbx.cell 2
        have rb_h_3 : w12.cell? ⟨N_h, 3, none⟩ = some (.slice A_h (addL a0.id a0.series a0.made a0.evs (a1.1, a1.2)).length C_h) := hbx.cell 3
        have rb_hl : N_h < w12.heap.size := hbx.lt
        have rb_hlk := rb_hl
        have rb_hz : w11.heap.size ≤ N_h := hN12
        have hne_h := o_h.ne_blk2 hbx (by decide)
        clear hbx
        go_wp2_with fail
        refine (eqRecord_any _ _ _ _ _ _ _ (addL a0.id a0.series a0.made a0.evs (a1.1, a1.2)) _ (o_h.ls encEv_len) (o_w.more ble_w) (by have := addL_le a0.id a0.series a0.made a0.evs (a1.1, a1.2); omega)).mono ?_
        rintro e w13 ⟨rfl, hb13⟩
        have h13 := blw h12 hb13
        have z13 := hb13.size
        replace bx0_0 : w13.cell? ⟨w.heap.size, 0, none⟩ = some (.int .i64 a0.id) := (hb13.cell (p := ⟨w.heap.size, 0, none⟩) bl0).trans bx0_0
        replace bx0_1 : w13.cell? ⟨w.heap.size, 1, none⟩ = some (.int .i64 a0.series) := (hb13.cell (p := ⟨w.heap.size, 1, none⟩) bl0).trans bx0_1
        replace bx0_2 : w13.cell? ⟨w.heap.size, 2, none⟩ = some (.int .i64 a0.made) := (hb13.cell (p := ⟨w.heap.size, 2, none⟩) bl0).trans bx0_2
        replace bx0_3 : w13.cell? ⟨w.heap.size, 3, none⟩ = some (.slice a0.A a0.evs.length a0.c) := (hb13.cell (p := ⟨w.heap.size, 3, none⟩) bl0).trans bx0_3
        replace bl0 := Nat.lt_of_lt_of_le bl0 hb13.size
        replace bx1_0 : w13.cell? ⟨w.heap.size + 1, 0, none⟩ = some (.int .i64 a1.1) := (hb13.cell (p := ⟨w.heap.size + 1, 0, none⟩) bl1).trans bx1_0
        replace bx1_1 : w13.cell? ⟨w.heap.size + 1, 1, none⟩ = some (.int .i64 a1.2) := (hb13.cell (p := ⟨w.heap.size + 1, 1, none⟩) bl1).trans bx1_1
        replace bl1 := Nat.lt_of_lt_of_le bl1 hb13.size
        replace rb_w_0 : w13.cell? ⟨N_w, 0, none⟩ = some (.int .i64 (keepI (addB a0.id a0.series a0.made a0.evs (a1.1, a1.2)) a0.id)) := (hb13.cell (p := ⟨N_w, 0, none⟩) rb_wl).trans rb_w_0
        replace rb_w_1 : w13.cell? ⟨N_w, 1, none⟩ = some (.int .i64 (keepI (addB a0.id a0.series a0.made a0.evs (a1.1, a1.2)) a0.series)) := (hb13.cell (p := ⟨N_w, 1, none⟩) rb_wl).trans rb_w_1
        replace rb_w_2 : w13.cell? ⟨N_w, 2, none⟩ = some (.int .i64 (keepI (addB a0.id a0.series a0.made a0.evs (a1.1, a1.2)) a0.made)) := (hb13.cell (p := ⟨N_w, 2, none⟩) rb_wl).trans rb_w_2
        replace rb_w_3 : w13.cell? ⟨N_w, 3, none⟩ = some (.slice A_w (addL a0.id a0.series a0.made a0.evs (a1.1, a1.2)).length C_w) := (hb13.cell (p := ⟨N_w, 3, none⟩) rb_wl).trans rb_w_3
        replace rb_wl := Nat.lt_of_lt_of_le rb_wl hb13.size
        replace xb0_0 : w13.cell? ⟨w3.heap.size, 0, none⟩ = some (.int .i64 a0.id) := (hb13.cell (p := ⟨w3.heap.size, 0, none⟩) xb0l).trans xb0_0
        replace xb0_1 : w13.cell? ⟨w3.heap.size, 1, none⟩ = some (.int .i64 a0.series) := (hb13.cell (p := ⟨w3.heap.size, 1, none⟩) xb0l).trans xb0_1
        replace xb0_2 : w13.cell? ⟨w3.heap.size, 2, none⟩ = some (.int .i64 a0.made) := (hb13.cell (p := ⟨w3.heap.size, 2, none⟩) xb0l).trans xb0_2
        replace xb0_3 : w13.cell? ⟨w3.heap.size, 3, none⟩ = some (.slice (some ⟨g_x0, 0, none⟩) a0.evs.length a0.evs.length) := (hb13.cell (p := ⟨w3.heap.size, 3, none⟩) xb0l).trans xb0_3
        replace xb0l := Nat.lt_of_lt_of_le xb0l hb13.size
        replace rb_g_0 : w13.cell? ⟨N_g, 0, none⟩ = some (.int .i64 (keepI (addB a0.id a0.series a0.made a0.evs (a1.1, a1.2)) a0.id)) := (hb13.cell (p := ⟨N_g, 0, none⟩) rb_gl).trans rb_g_0
        replace rb_g_1 : w13.cell? ⟨N_g, 1, none⟩ = some (.int .i64 (keepI (addB a0.id a0.series a0.made a0.evs (a1.1, a1.2)) a0.series)) := (hb13.cell (p := ⟨N_g, 1, none⟩) rb_gl).trans rb_g_1
        replace rb_g_2 : w13.cell? ⟨N_g, 2, none⟩ = some (.int .i64 (keepI (addB a0.id a0.series a0.made a0.evs (a1.1, a1.2)) a0.made)) := (hb13.cell (p := ⟨N_g, 2, none⟩) rb_gl).trans rb_g_2
        replace rb_g_3 : w13.cell? ⟨N_g, 3, none⟩ = some (.slice A_g (addL a0.id a0.series a0.made a0.evs (a1.1, a1.2)).length C_g) := (hb13.cell (p := ⟨N_g, 3, none⟩) rb_gl).trans rb_g_3
        replace rb_gl := Nat.lt_of_lt_of_le rb_gl hb13.size
        replace rb_h_0 : w13.cell? ⟨N_h, 0, none⟩ = some (.int .i64 (keepI (addB a0.id a0.series a0.made a0.evs (a1.1, a1.2)) a0.id)) := (hb13.cell (p := ⟨N_h, 0, none⟩) rb_hl).trans rb_h_0
        replace rb_h_1 : w13.cell? ⟨N_h, 1, none⟩ = some (.int .i64 (keepI (addB a0.id a0.series a0.made a0.evs (a1.1, a1.2)) a0.series)) := (hb13.cell (p := ⟨N_h, 1, none⟩) rb_hl).trans rb_h_1
        replace rb_h_2 : w13.cell? ⟨N_h, 2, none⟩ = some (.int .i64 (keepI (addB a0.id a0.series a0.made a0.evs (a1.1, a1.2)) a0.made)) := (hb13.cell (p := ⟨N_h, 2, none⟩) rb_hl).trans rb_h_2
        replace rb_h_3 : w13.cell? ⟨N_h, 3, none⟩ = some (.slice A_h (addL a0.id a0.series a0.made a0.evs (a1.1, a1.2)).length C_h) := (hb13.cell (p := ⟨N_h, 3, none⟩) rb_hl).trans rb_h_3
        replace rb_hl := Nat.lt_of_lt_of_le rb_hl hb13.size
        replace o_w := o_w.below (hb13.mono ble_w)
        replace ble_w := Nat.le_trans ble_w hb13.size
        replace o_m := (o_m.below hb13).more hb13.size
        replace o_h := o_h.on hb13
        go_wp2_with fail
        refine (heldRecord_any _ _ _ _ _ _ _ _ o_m (by have := addL_le a0.id a0.series a0.made a0.evs (a1.1, a1.2); omega) (by omega) (by omega)).mono ?_
        rintro e w14 ⟨rfl, hb14⟩
        have h14 := blw h13 hb14
        have z14 := hb14.size
        replace bx0_0 : w14.cell? ⟨w.heap.size, 0, none⟩ = some (.int .i64 a0.id) := (hb14.cell (p := ⟨w.heap.size, 0, none⟩) bl0).trans bx0_0
        replace bx0_1 : w14.cell? ⟨w.heap.size, 1, none⟩ = some (.int .i64 a0.series) := (hb14.cell (p := ⟨w.heap.size, 1, none⟩) bl0).trans bx0_1
        replace bx0_2 : w14.cell? ⟨w.heap.size, 2, none⟩ = some (.int .i64 a0.made) := (hb14.cell (p := ⟨w.heap.size, 2, none⟩) bl0).trans bx0_2
        replace bx0_3 : w14.cell? ⟨w.heap.size, 3, none⟩ = some (.slice a0.A a0.evs.length a0.c) := (hb14.cell (p := ⟨w.heap.size, 3, none⟩) bl0).trans bx0_3
        replace bl0 := Nat.lt_of_lt_of_le bl0 hb14.size
        replace bx1_0 : w14.cell? ⟨w.heap.size + 1, 0, none⟩ = some (.int .i64 a1.1) := (hb14.cell (p := ⟨w.heap.size + 1, 0, none⟩) bl1).trans bx1_0
        replace bx1_1 : w14.cell? ⟨w.heap.size + 1, 1, none⟩ = some (.int .i64 a1.2) := (hb14.cell (p := ⟨w.heap.size + 1, 1, none⟩) bl1).trans bx1_1
        replace bl1 := Nat.lt_of_lt_of_le bl1 hb14.size
        replace rb_w_0 : w14.cell? ⟨N_w, 0, none⟩ = some (.int .i64 (keepI (addB a0.id a0.series a0.made a0.evs (a1.1, a1.2)) a0.id)) := (hb14.cell (p := ⟨N_w, 0, none⟩) rb_wl).trans rb_w_0
        replace rb_w_1 : w14.cell? ⟨N_w, 1, none⟩ = some (.int .i64 (keepI (addB a0.id a0.series a0.made a0.evs (a1.1, a1.2)) a0.series)) := (hb14.cell (p := ⟨N_w, 1, none⟩) rb_wl).trans rb_w_1
        replace rb_w_2 : w14.cell? ⟨N_w, 2, none⟩ = some (.int .i64 (keepI (addB a0.id a0.series a0.made a0.evs (a1.1, a1.2)) a0.made)) := (hb14.cell (p := ⟨N_w, 2, none⟩) rb_wl).trans rb_w_2
        replace rb_w_3 : w14.cell? ⟨N_w, 3, none⟩ = some (.slice A_w (addL a0.id a0.series a0.made a0.evs (a1.1, a1.2)).length C_w) := (hb14.cell (p := ⟨N_w, 3, none⟩) rb_wl).trans rb_w_3
        replace rb_wl := Nat.lt_of_lt_of_le rb_wl hb14.size
        replace xb0_0 : w14.cell? ⟨w3.heap.size, 0, none⟩ = some (.int .i64 a0.id) := (hb14.cell (p := ⟨w3.heap.size, 0, none⟩) xb0l).trans xb0_0
        replace xb0_1 : w14.cell? ⟨w3.heap.size, 1, none⟩ = some (.int .i64 a0.series) := (hb14.cell (p := ⟨w3.heap.size, 1, none⟩) xb0l).trans xb0_1
        replace xb0_2 : w14.cell? ⟨w3.heap.size, 2, none⟩ = some (.int .i64 a0.made) := (hb14.cell (p := ⟨w3.heap.size, 2, none⟩) xb0l).trans xb0_2
        replace xb0_3 : w14.cell? ⟨w3.heap.size, 3, none⟩ = some (.slice (some ⟨g_x0, 0, none⟩) a0.evs.length a0.evs.length) := (hb14.cell (p := ⟨w3.heap.size, 3, none⟩) xb0l).trans xb0_3
        replace xb0l := Nat.lt_of_lt_of_le xb0l hb14.size
        replace rb_g_0 : w14.cell? ⟨N_g, 0, none⟩ = some (.int .i64 (keepI (addB a0.id a0.series a0.made a0.evs (a1.1, a1.2)) a0.id)) := (hb14.cell (p := ⟨N_g, 0, none⟩) rb_gl).trans rb_g_0
        replace rb_g_1 : w14.cell? ⟨N_g, 1, none⟩ = some (.int .i64 (keepI (addB a0.id a0.series a0.made a0.evs (a1.1, a1.2)) a0.series)) := (hb14.cell (p := ⟨N_g, 1, none⟩) rb_gl).trans rb_g_1
        replace rb_g_2 : w14.cell? ⟨N_g, 2, none⟩ = some (.int .i64 (keepI (addB a0.id a0.series a0.made a0.evs (a1.1, a1.2)) a0.made)) := (hb14.cell (p := ⟨N_g, 2, none⟩) rb_gl).trans rb_g_2
        replace rb_g_3 : w14.cell? ⟨N_g, 3, none⟩ = some (.slice A_g (addL a0.id a0.series a0.made a0.evs (a1.1, a1.2)).length C_g) := (hb14.cell (p := ⟨N_g, 3, none⟩) rb_gl).trans rb_g_3
        replace rb_gl := Nat.lt_of_lt_of_le rb_gl hb14.size
        replace rb_h_0 : w14.cell? ⟨N_h, 0, none⟩ = some (.int .i64 (keepI (addB a0.id a0.series a0.made a0.evs (a1.1, a1.2)) a0.id)) := (hb14.cell (p := ⟨N_h, 0, none⟩) rb_hl).trans rb_h_0
        replace rb_h_1 : w14.cell? ⟨N_h, 1, none⟩ = some (.int .i64 (keepI (addB a0.id a0.series a0.made a0.evs (a1.1, a1.2)) a0.series)) := (hb14.cell (p := ⟨N_h, 1, none⟩) rb_hl).trans rb_h_1
        replace rb_h_2 : w14.cell? ⟨N_h, 2, none⟩ = some (.int .i64 (keepI (addB a0.id a0.series a0.made a0.evs (a1.1, a1.2)) a0.made)) := (hb14.cell (p := ⟨N_h, 2, none⟩) rb_hl).trans rb_h_2
        replace rb_h_3 : w14.cell? ⟨N_h, 3, none⟩ = some (.slice A_h (addL a0.id a0.series a0.made a0.evs (a1.1, a1.2)).length C_h) := (hb14.cell (p := ⟨N_h, 3, none⟩) rb_hl).trans rb_h_3
        replace rb_hl := Nat.lt_of_lt_of_le rb_hl hb14.size
        replace o_w := o_w.below (hb14.mono ble_w)
        replace ble_w := Nat.le_trans ble_w hb14.size
        replace o_m := (o_m.below hb14).more hb14.size
        replace o_h := o_h.on hb14
        go_wp2_with fail
        go_ret
        exact ⟨rfl, h14⟩
      have HK : Hid (∀ W, Below w11.heap.size w11 W → Below w11.heap.size w11 W ∧ W.cell? ⟨w.heap.size, 0, none⟩ = some (.int .i64 a0.id) ∧ W.cell? ⟨w.heap.size, 1, none⟩ = some (.int .i64 a0.series) ∧ W.cell? ⟨w.heap.size, 2, none⟩ = some (.int .i64 a0.made) ∧ W.cell? ⟨w.heap.size, 3, none⟩ = some (.slice a0.A a0.evs.length a0.c) ∧ W.cell? ⟨w.heap.size + 1, 0, none⟩ = some (.int .i64 a1.1) ∧ W.cell? ⟨w.heap.size + 1, 1, none⟩ = some (.int .i64 a1.2) ∧ W.cell? ⟨w3.heap.size, 0, none⟩ = some (.int .i64 a0.id) ∧ W.cell? ⟨w3.heap.size, 1, none⟩ = some (.int .i64 a0.series) ∧ W.cell? ⟨w3.heap.size, 2, none⟩ = some (.int .i64 a0.made) ∧ W.cell? ⟨w3.heap.size, 3, none⟩ = some (.slice (some ⟨g_x0, 0, none⟩) a0.evs.length a0.evs.length)) := fun W hb => ⟨hb, (hb.cell (p := ⟨_, _, _⟩) bl0).trans bx0_0, (hb.cell (p := ⟨_, _, _⟩) bl0).trans bx0_1, (hb.cell (p := ⟨_, _, _⟩) bl0).trans bx0_2, (hb.cell (p := ⟨_, _, _⟩) bl0).trans bx0_3, (hb.cell (p := ⟨_, _, _⟩) bl1).trans bx1_0, (hb.cell (p := ⟨_, _, _⟩) bl1).trans bx1_1, (hb.cell (p := ⟨_, _, _⟩) xb0l).trans xb0_0, (hb.cell (p := ⟨_, _, _⟩) xb0l).trans xb0_1, (hb.cell (p := ⟨_, _, _⟩) xb0l).trans xb0_2, (hb.cell (p := ⟨_, _, _⟩) xb0l).trans xb0_3⟩
      have HLr0 : Hid (∀ W, Below w11.heap.size w11 W → Ls W W.heap.size encEv 2 a0.A a0.evs) := fun W hb => ((hl0.below (blw h11 hb)).more (blw h11 hb).size)
      refine wp_region_noPanic ?_
      refine wp_region_held_drew (S := fun W => Below w11.heap.size w11 W ∧ W.cell? ⟨w.heap.size, 0, none⟩ = some (.int .i64 a0.id) ∧ W.cell? ⟨w.heap.size, 1, none⟩ = some (.int .i64 a0.series) ∧ W.cell? ⟨w.heap.size, 2, none⟩ = some (.int .i64 a0.made) ∧ W.cell? ⟨w.heap.size, 3, none⟩ = some (.slice a0.A a0.evs.length a0.c) ∧ W.cell? ⟨w.heap.size + 1, 0, none⟩ = some (.int .i64 a1.1) ∧ W.cell? ⟨w.heap.size + 1, 1, none⟩ = some (.int .i64 a1.2) ∧ W.cell? ⟨w3.heap.size, 0, none⟩ = some (.int .i64 a0.id) ∧ W.cell? ⟨w3.heap.size, 1, none⟩ = some (.int .i64 a0.series) ∧ W.cell? ⟨w3.heap.size, 2, none⟩ = some (.int .i64 a0.made) ∧ W.cell? ⟨w3.heap.size, 3, none⟩ = some (.slice (some ⟨g_x0, 0, none⟩) a0.evs.length a0.evs.length)) (by kernel_rfl) (HK.out _ (Below.refl _ _).drew) (fun hHeld => ?_)
      generalize w11.drew = v12_0 at *
      refine wpAnyH_take (i := 0) (v := ?v33) rfl (by kernel_rfl) (by kernel_rfl) (by kernel_rfl) (fun _ _ _ h => h) (Or.inl ⟨by rfl, ?hy33⟩) hHeld ?rest33
      case hy33 => (intro W hSw; (try dsimp only at hSw); go_simp) <;> with_reducible rfl
      try simp only [Act.put, List.setIfInBounds_toArray, List.set_cons_zero, List.set_cons_succ, List.getElem_toArray, List.getElem_cons_succ, List.getElem_cons_zero]
      refine wpAnyH_take (i := 2) (v := ?v34) rfl (by kernel_rfl) (by kernel_rfl) (by kernel_rfl) (fun _ _ _ h => h) (Or.inl ⟨by rfl, ?hy34⟩) hHeld ?rest34
      case hy34 => (intro W hSw; (try dsimp only at hSw); go_simp) <;> with_reducible rfl
      try simp only [Act.put, List.setIfInBounds_toArray, List.set_cons_zero, List.set_cons_succ, List.getElem_toArray, List.getElem_cons_succ, List.getElem_cons_zero]
      refine wpAnyH_ready (rs := [1, 8]) (by kernel_rfl) (by simp) ?_
      refine AllReadyH.cons rfl (fun K hK => ?_) (AllReadyH.cons rfl (fun K hK => ?_) AllReadyH.nil)
      · go_simp
        refine (toRecord_any _ _ _ _ _ a0.evs _ (HLr0.out _ hHeld.1) hn0).mono ?_
        rintro e v12_1 ⟨g_y, gl_y, rfl, o_y, hd⟩
        go_wp2_with fail
        refine hK.out _ _ (HK.out _ (blw hHeld.1 hd)) (fun hH2 => ?_)
        clear hK K hHeld
        have hHeld := hH2
        clear hH2
        clear hd
        try simp only [Act.put, List.setIfInBounds_toArray, List.set_cons_zero, List.set_cons_succ, List.getElem_toArray, List.getElem_cons_succ, List.getElem_cons_zero]
        refine wpAnyH_ready (rs := [3, 8]) (by kernel_rfl) (by simp) ?_
        refine AllReadyH.cons rfl (fun K hK => ?_) (AllReadyH.cons rfl (fun K hK => ?_) AllReadyH.nil)
        · go_simp
          refine (toEvent_v _ _ _).mono ?_
          rintro e v12_2 ⟨rfl, hd⟩
          go_wp2_with fail
          have o_y_ := o_y.below hd o_y.lt
          refine hK.out _ _ (HK.out _ (blw hHeld.1 hd)) (fun hH2 => ?_)
          clear hK K hHeld
          have hHeld := hH2
          clear hH2
          clear hd
          try simp only [Act.put, List.setIfInBounds_toArray, List.set_cons_zero, List.set_cons_succ, List.getElem_toArray, List.getElem_cons_succ, List.getElem_cons_zero]
          refine wpAnyH_ready (rs := [4, 8]) (by kernel_rfl) (by simp) ?_
          refine AllReadyH.cons rfl (fun K hK => ?_) (AllReadyH.cons rfl (fun K hK => ?_) AllReadyH.nil)
          · go_simp
            refine (c_impl_AddEvent _ _ _ _ _ a0.evs _ _ _ (o_y_.ls encEv_len) hn0 (Nat.le_refl _)).mono ?_
            rintro e v12_3 ⟨A_h, C_h, rfl, o_h, hd⟩
            replace o_h := o_h.mono hHeld.1.size
            go_wp2_with fail
            have o_y__ := o_y_.below hd o_y_.lt
            refine hK.out _ _ (HK.out _ (blw hHeld.1 hd)) (fun hH2 => ?_)
            clear hK K hHeld
            have hHeld := hH2
            clear hH2
            clear hd
            try simp only [Act.put, List.setIfInBounds_toArray, List.set_cons_zero, List.set_cons_succ, List.getElem_toArray, List.getElem_cons_succ, List.getElem_cons_zero]
            refine wpAnyH_take (i := 5) (v := ?v35) rfl (by kernel_rfl) (by kernel_rfl) (by kernel_rfl) (fun _ _ _ h => h) (Or.inl ⟨by rfl, ?hy35⟩) hHeld ?rest35
            case hy35 => (intro W hSw; (try dsimp only at hSw); go_simp) <;> with_reducible rfl
            try simp only [Act.put, List.setIfInBounds_toArray, List.set_cons_zero, List.set_cons_succ, List.getElem_toArray, List.getElem_cons_succ, List.getElem_cons_zero]
            refine wpAnyH_take (i := 6) (v := ?v36) rfl (by kernel_rfl) (by kernel_rfl) (by kernel_rfl) (fun _ _ _ h => h) (Or.inl ⟨by rfl, ?hy36⟩) hHeld ?rest36
            case hy36 => (intro W hSw; (try dsimp only at hSw); go_simp) <;> with_reducible rfl
            try simp only [Act.put, List.setIfInBounds_toArray, List.set_cons_zero, List.set_cons_succ, List.getElem_toArray, List.getElem_cons_succ, List.getElem_cons_zero]
            refine wpAnyH_take (i := 7) (v := ?v37) rfl (by kernel_rfl) (by kernel_rfl) (by kernel_rfl) (fun _ _ _ h => h) (Or.inl ⟨by rfl, ?hy37⟩) hHeld ?rest37
            case hy37 => (intro W hSw; (try dsimp only at hSw); go_simp) <;> with_reducible rfl
            try simp only [Act.put, List.setIfInBounds_toArray, List.set_cons_zero, List.set_cons_succ, List.getElem_toArray, List.getElem_cons_succ, List.getElem_cons_zero]
            refine wpAnyH_ready (rs := [8]) (by kernel_rfl) (by simp) ?_
            refine AllReadyH.cons rfl (fun K hK => ?_) AllReadyH.nil
            go_simp
            refine hK.out _ _ (HK.out _ (Below.alloc hHeld.1 hHeld.1.size _)) (fun hH2 => ?_)
            have hzN : w11.heap.size ≤ v12_3.heap.size := hHeld.1.size
            clear hK K hHeld
            have hHeld := hH2
            clear hH2
            have o_y___ := o_y__.alloc (.cells #[.int .i64 0, .int .i64 0, .int .i64 0, .slice none 0 0] 30)
            replace o_h := o_h.alloc (.cells #[.int .i64 0, .int .i64 0, .int .i64 0, .slice none 0 0] 30)
            have b6 : Blk (v12_3.alloc (.cells #[.int .i64 0, .int .i64 0, .int .i64 0, .slice none 0 0] 30)) v12_3.heap.size 30 #[.int .i64 0, .int .i64 0, .int .i64 0, .slice none 0 0] := Blk.new _ _ _
            generalize (v12_3.alloc (.cells #[.int .i64 0, .int .i64 0, .int .i64 0, .slice none 0 0] 30)) = v12_4 at *
            generalize v12_3.heap.size = N6 at *
            try simp only [Act.put, List.setIfInBounds_toArray, List.set_cons_zero, List.set_cons_succ, List.getElem_toArray, List.getElem_cons_succ, List.getElem_cons_zero]
            refine wpAnyH_ready (rs := [9]) (by kernel_rfl) (by simp) ?_
            refine AllReadyH.cons rfl (fun K hK => ?_) AllReadyH.nil
            have c60 := b6.cell 0
            have c61 := b6.cell 1
            have c62 := b6.cell 2
            have c63 := b6.cell 3
            have f60 := b6.frozen 0
            have f61 := b6.frozen 1
            have f62 := b6.frozen 2
            have f63 := b6.frozen 3
            go_simp
            refine hK.out _ _ (HK.out _ (Below.setCell (Below.setCell (Below.setCell (Below.setCell hHeld.1 (p := ⟨N6, 0, none⟩) hzN (.int .i64 (keepI (addB a0.id a0.series a0.made a0.evs (a1.1, a1.2)) a0.id))) (p := ⟨N6, 1, none⟩) hzN (.int .i64 (keepI (addB a0.id a0.series a0.made a0.evs (a1.1, a1.2)) a0.series))) (p := ⟨N6, 2, none⟩) hzN (.int .i64 (keepI (addB a0.id a0.series a0.made a0.evs (a1.1, a1.2)) a0.made))) (p := ⟨N6, 3, none⟩) hzN (.slice A_h (addL a0.id a0.series a0.made a0.evs (a1.1, a1.2)).length C_h))) (fun hH2 => ?_)
            clear hK K hHeld
            have hHeld := hH2
            clear hH2
            have hwr : Wr (fun q => q = N6) v12_4 ((((v12_4.setCell ⟨N6, 0, none⟩ (.int .i64 (keepI (addB a0.id a0.series a0.made a0.evs (a1.1, a1.2)) a0.id))).setCell ⟨N6, 1, none⟩ (.int .i64 (keepI (addB a0.id a0.series a0.made a0.evs (a1.1, a1.2)) a0.series))).setCell ⟨N6, 2, none⟩ (.int .i64 (keepI (addB a0.id a0.series a0.made a0.evs (a1.1, a1.2)) a0.made))).setCell ⟨N6, 3, none⟩ (.slice A_h (addL a0.id a0.series a0.made a0.evs (a1.1, a1.2)).length C_h)) := (Wr.setCell (p := ⟨N6, 3, none⟩) (Wr.setCell (p := ⟨N6, 2, none⟩) (Wr.setCell (p := ⟨N6, 1, none⟩) (Wr.setCell (p := ⟨N6, 0, none⟩) (Wr.refl (fun q => q = N6) v12_4) (.inl rfl) (.int .i64 (keepI (addB a0.id a0.series a0.made a0.evs (a1.1, a1.2)) a0.id))) (.inl rfl) (.int .i64 (keepI (addB a0.id a0.series a0.made a0.evs (a1.1, a1.2)) a0.series))) (.inl rfl) (.int .i64 (keepI (addB a0.id a0.series a0.made a0.evs (a1.1, a1.2)) a0.made))) (.inl rfl) (.slice A_h (addL a0.id a0.series a0.made a0.evs (a1.1, a1.2)).length C_h))
            have ho8 : Blk ((((v12_4.setCell ⟨N6, 0, none⟩ (.int .i64 (keepI (addB a0.id a0.series a0.made a0.evs (a1.1, a1.2)) a0.id))).setCell ⟨N6, 1, none⟩ (.int .i64 (keepI (addB a0.id a0.series a0.made a0.evs (a1.1, a1.2)) a0.series))).setCell ⟨N6, 2, none⟩ (.int .i64 (keepI (addB a0.id a0.series a0.made a0.evs (a1.1, a1.2)) a0.made))).setCell ⟨N6, 3, none⟩ (.slice A_h (addL a0.id a0.series a0.made a0.evs (a1.1, a1.2)).length C_h)) N6 30 #[.int .i64 (keepI (addB a0.id a0.series a0.made a0.evs (a1.1, a1.2)) a0.id), .int .i64 (keepI (addB a0.id a0.series a0.made a0.evs (a1.1, a1.2)) a0.series), .int .i64 (keepI (addB a0.id a0.series a0.made a0.evs (a1.1, a1.2)) a0.made), .slice A_h (addL a0.id a0.series a0.made a0.evs (a1.1, a1.2)).length C_h] := by
              have h := (Blk.set_ (Blk.set_ (Blk.set_ (Blk.set_ b6 0 (.int .i64 (keepI (addB a0.id a0.series a0.made a0.evs (a1.1, a1.2)) a0.id))) 1 (.int .i64 (keepI (addB a0.id a0.series a0.made a0.evs (a1.1, a1.2)) a0.series))) 2 (.int .i64 (keepI (addB a0.id a0.series a0.made a0.evs (a1.1, a1.2)) a0.made))) 3 (.slice A_h (addL a0.id a0.series a0.made a0.evs (a1.1, a1.2)).length C_h))
              simpa using h
            have hv8 := o_h.wr1 hwr (o_h.ne_blk2 b6 (by decide))
            try simp only [Act.put, List.setIfInBounds_toArray, List.set_cons_zero, List.set_cons_succ, List.getElem_toArray, List.getElem_cons_succ, List.getElem_cons_zero]
            refine wpAnyH_take (i := 10) (v := ?v38) rfl (by kernel_rfl) (by kernel_rfl) (by kernel_rfl) (fun _ _ _ h => h) (Or.inl ⟨by rfl, ?hy38⟩) hHeld ?rest38
            case hy38 => (intro W hSw; (try dsimp only at hSw); go_simp) <;> with_reducible rfl
            try simp only [Act.put, List.setIfInBounds_toArray, List.set_cons_zero, List.set_cons_succ, List.getElem_toArray, List.getElem_cons_succ, List.getElem_cons_zero]
            refine wpAnyH_done (by kernel_rfl) ?_ _
            refine NoPanic.normal ?_
            exact HT12.out _ _ _ _ _ _ _ _ _ _ _ _ _ _ _ _ _ _ _ _ _ _ _ _ _ _ _ _ _ _ _ _ _ _ _ _ _ _ _ _ _ _ _ _ _ _ _ _ _ _ _ _ _ _ _ _ _ _ _ _ _ _ _ _ _ _ _ _ _ _ _ _ _ _ _ _ _ _ _ _ _ _ _ _ _ _ _ _ _ _ _ _ _ _ _ _ _ hHeld.1 hv8 ho8 hzN
          · go_simp
            refine hK.out _ _ (HK.out _ (Below.alloc hHeld.1 hHeld.1.size _)) (fun hH2 => ?_)
            have hzN : w11.heap.size ≤ v12_2.heap.size := hHeld.1.size
            clear hK K hHeld
            have hHeld := hH2
            clear hH2
            have o_y__ := o_y_.alloc (.cells #[.int .i64 0, .int .i64 0, .int .i64 0, .slice none 0 0] 30)
            have b6 : Blk (v12_2.alloc (.cells #[.int .i64 0, .int .i64 0, .int .i64 0, .slice none 0 0] 30)) v12_2.heap.size 30 #[.int .i64 0, .int .i64 0, .int .i64 0, .slice none 0 0] := Blk.new _ _ _
            generalize (v12_2.alloc (.cells #[.int .i64 0, .int .i64 0, .int .i64 0, .slice none 0 0] 30)) = v12_6 at *
            generalize v12_2.heap.size = N6 at *
            try simp only [Act.put, List.setIfInBounds_toArray, List.set_cons_zero, List.set_cons_succ, List.getElem_toArray, List.getElem_cons_succ, List.getElem_cons_zero]
            refine wpAnyH_ready (rs := [4]) (by kernel_rfl) (by simp) ?_
            refine AllReadyH.cons rfl (fun K hK => ?_) AllReadyH.nil
            go_simp
            refine (c_impl_AddEvent _ _ _ _ _ a0.evs _ _ _ (o_y__.ls encEv_len) hn0 (Nat.le_refl _)).mono ?_
            rintro e v12_7 ⟨A_h, C_h, rfl, o_h, hd⟩
            replace o_h := o_h.mono hHeld.1.size
            go_wp2_with fail
            replace b6 := b6.below hd b6.lt
            have o_y___ := o_y__.below hd o_y__.lt
            refine hK.out _ _ (HK.out _ (blw hHeld.1 hd)) (fun hH2 => ?_)
            clear hK K hHeld
            have hHeld := hH2
            clear hH2
            clear hd
            try simp only [Act.put, List.setIfInBounds_toArray, List.set_cons_zero, List.set_cons_succ, List.getElem_toArray, List.getElem_cons_succ, List.getElem_cons_zero]
            refine wpAnyH_take (i := 5) (v := ?v39) rfl (by kernel_rfl) (by kernel_rfl) (by kernel_rfl) (fun _ _ _ h => h) (Or.inl ⟨by rfl, ?hy39⟩) hHeld ?rest39
            case hy39 => (intro W hSw; (try dsimp only at hSw); go_simp) <;> with_reducible rfl
            try simp only [Act.put, List.setIfInBounds_toArray, List.set_cons_zero, List.set_cons_succ, List.getElem_toArray, List.getElem_cons_succ, List.getElem_cons_zero]
            refine wpAnyH_take (i := 6) (v := ?v40) rfl (by kernel_rfl) (by kernel_rfl) (by kernel_rfl) (fun _ _ _ h => h) (Or.inl ⟨by rfl, ?hy40⟩) hHeld ?rest40
            case hy40 => (intro W hSw; (try dsimp only at hSw); go_simp) <;> with_reducible rfl
            try simp only [Act.put, List.setIfInBounds_toArray, List.set_cons_zero, List.set_cons_succ, List.getElem_toArray, List.getElem_cons_succ, List.getElem_cons_zero]
            refine wpAnyH_take (i := 7) (v := ?v41) rfl (by kernel_rfl) (by kernel_rfl) (by kernel_rfl) (fun _ _ _ h => h) (Or.inl ⟨by rfl, ?hy41⟩) hHeld ?rest41
            case hy41 => (intro W hSw; (try dsimp only at hSw); go_simp) <;> with_reducible rfl
            try simp only [Act.put, List.setIfInBounds_toArray, List.set_cons_zero, List.set_cons_succ, List.getElem_toArray, List.getElem_cons_succ, List.getElem_cons_zero]
            refine wpAnyH_ready (rs := [9]) (by kernel_rfl) (by simp) ?_
            refine AllReadyH.cons rfl (fun K hK => ?_) AllReadyH.nil
            have c60 := b6.cell 0
            have c61 := b6.cell 1
            have c62 := b6.cell 2
            have c63 := b6.cell 3
            have f60 := b6.frozen 0
            have f61 := b6.frozen 1
            have f62 := b6.frozen 2
            have f63 := b6.frozen 3
            go_simp
            refine hK.out _ _ (HK.out _ (Below.setCell (Below.setCell (Below.setCell (Below.setCell hHeld.1 (p := ⟨N6, 0, none⟩) hzN (.int .i64 (keepI (addB a0.id a0.series a0.made a0.evs (a1.1, a1.2)) a0.id))) (p := ⟨N6, 1, none⟩) hzN (.int .i64 (keepI (addB a0.id a0.series a0.made a0.evs (a1.1, a1.2)) a0.series))) (p := ⟨N6, 2, none⟩) hzN (.int .i64 (keepI (addB a0.id a0.series a0.made a0.evs (a1.1, a1.2)) a0.made))) (p := ⟨N6, 3, none⟩) hzN (.slice A_h (addL a0.id a0.series a0.made a0.evs (a1.1, a1.2)).length C_h))) (fun hH2 => ?_)
            clear hK K hHeld
            have hHeld := hH2
            clear hH2
            have hwr : Wr (fun q => q = N6) v12_7 ((((v12_7.setCell ⟨N6, 0, none⟩ (.int .i64 (keepI (addB a0.id a0.series a0.made a0.evs (a1.1, a1.2)) a0.id))).setCell ⟨N6, 1, none⟩ (.int .i64 (keepI (addB a0.id a0.series a0.made a0.evs (a1.1, a1.2)) a0.series))).setCell ⟨N6, 2, none⟩ (.int .i64 (keepI (addB a0.id a0.series a0.made a0.evs (a1.1, a1.2)) a0.made))).setCell ⟨N6, 3, none⟩ (.slice A_h (addL a0.id a0.series a0.made a0.evs (a1.1, a1.2)).length C_h)) := (Wr.setCell (p := ⟨N6, 3, none⟩) (Wr.setCell (p := ⟨N6, 2, none⟩) (Wr.setCell (p := ⟨N6, 1, none⟩) (Wr.setCell (p := ⟨N6, 0, none⟩) (Wr.refl (fun q => q = N6) v12_7) (.inl rfl) (.int .i64 (keepI (addB a0.id a0.series a0.made a0.evs (a1.1, a1.2)) a0.id))) (.inl rfl) (.int .i64 (keepI (addB a0.id a0.series a0.made a0.evs (a1.1, a1.2)) a0.series))) (.inl rfl) (.int .i64 (keepI (addB a0.id a0.series a0.made a0.evs (a1.1, a1.2)) a0.made))) (.inl rfl) (.slice A_h (addL a0.id a0.series a0.made a0.evs (a1.1, a1.2)).length C_h))
            have ho8 : Blk ((((v12_7.setCell ⟨N6, 0, none⟩ (.int .i64 (keepI (addB a0.id a0.series a0.made a0.evs (a1.1, a1.2)) a0.id))).setCell ⟨N6, 1, none⟩ (.int .i64 (keepI (addB a0.id a0.series a0.made a0.evs (a1.1, a1.2)) a0.series))).setCell ⟨N6, 2, none⟩ (.int .i64 (keepI (addB a0.id a0.series a0.made a0.evs (a1.1, a1.2)) a0.made))).setCell ⟨N6, 3, none⟩ (.slice A_h (addL a0.id a0.series a0.made a0.evs (a1.1, a1.2)).length C_h)) N6 30 #[.int .i64 (keepI (addB a0.id a0.series a0.made a0.evs (a1.1, a1.2)) a0.id), .int .i64 (keepI (addB a0.id a0.series a0.made a0.evs (a1.1, a1.2)) a0.series), .int .i64 (keepI (addB a0.id a0.series a0.made a0.evs (a1.1, a1.2)) a0.made), .slice A_h (addL a0.id a0.series a0.made a0.evs (a1.1, a1.2)).length C_h] := by
              have h := (Blk.set_ (Blk.set_ (Blk.set_ (Blk.set_ b6 0 (.int .i64 (keepI (addB a0.id a0.series a0.made a0.evs (a1.1, a1.2)) a0.id))) 1 (.int .i64 (keepI (addB a0.id a0.series a0.made a0.evs (a1.1, a1.2)) a0.series))) 2 (.int .i64 (keepI (addB a0.id a0.series a0.made a0.evs (a1.1, a1.2)) a0.made))) 3 (.slice A_h (addL a0.id a0.series a0.made a0.evs (a1.1, a1.2)).length C_h))
              simpa using h
            have hv8 := o_h.wr1 hwr (o_h.ne_blk2 b6 (by decide))
            try simp only [Act.put, List.setIfInBounds_toArray, List.set_cons_zero, List.set_cons_succ, List.getElem_toArray, List.getElem_cons_succ, List.getElem_cons_zero]
            refine wpAnyH_take (i := 10) (v := ?v42) rfl (by kernel_rfl) (by kernel_rfl) (by kernel_rfl) (fun _ _ _ h => h) (Or.inl ⟨by rfl, ?hy42⟩) hHeld ?rest42
            case hy42 => (intro W hSw; (try dsimp only at hSw); go_simp) <;> with_reducible rfl
            try simp only [Act.put, List.setIfInBounds_toArray, List.set_cons_zero, List.set_cons_succ, List.getElem_toArray, List.getElem_cons_succ, List.getElem_cons_zero]
            refine wpAnyH_done (by kernel_rfl) ?_ _
            refine NoPanic.normal ?_
            exact HT12.out _ _ _ _ _ _ _ _ _ _ _ _ _ _ _ _ _ _ _ _ _ _ _ _ _ _ _ _ _ _ _ _ _ _ _ _ _ _ _ _ _ _ _ _ _ _ _ _ _ _ _ _ _ _ _ _ _ _ _ _ _ _ _ _ _ _ _ _ _ _ _ _ _ _ _ _ _ _ _ _ _ _ _ _ _ _ _ _ _ _ _ _ _ _ _ _ _ hHeld.1 hv8 ho8 hzN
        · go_simp
          refine hK.out _ _ (HK.out _ (Below.alloc hHeld.1 hHeld.1.size _)) (fun hH2 => ?_)
          have hzN : w11.heap.size ≤ v12_1.heap.size := hHeld.1.size
          clear hK K hHeld
          have hHeld := hH2
          clear hH2
          have o_y_ := o_y.alloc (.cells #[.int .i64 0, .int .i64 0, .int .i64 0, .slice none 0 0] 30)
          have b6 : Blk (v12_1.alloc (.cells #[.int .i64 0, .int .i64 0, .int .i64 0, .slice none 0 0] 30)) v12_1.heap.size 30 #[.int .i64 0, .int .i64 0, .int .i64 0, .slice none 0 0] := Blk.new _ _ _
          generalize (v12_1.alloc (.cells #[.int .i64 0, .int .i64 0, .int .i64 0, .slice none 0 0] 30)) = v12_9 at *
          generalize v12_1.heap.size = N6 at *
          try simp only [Act.put, List.setIfInBounds_toArray, List.set_cons_zero, List.set_cons_succ, List.getElem_toArray, List.getElem_cons_succ, List.getElem_cons_zero]
          refine wpAnyH_ready (rs := [3]) (by kernel_rfl) (by simp) ?_
          refine AllReadyH.cons rfl (fun K hK => ?_) AllReadyH.nil
          go_simp
          refine (toEvent_v _ _ _).mono ?_
          rintro e v12_10 ⟨rfl, hd⟩
          go_wp2_with fail
          replace b6 := b6.below hd b6.lt
          have o_y__ := o_y_.below hd o_y_.lt
          refine hK.out _ _ (HK.out _ (blw hHeld.1 hd)) (fun hH2 => ?_)
          clear hK K hHeld
          have hHeld := hH2
          clear hH2
          clear hd
          try simp only [Act.put, List.setIfInBounds_toArray, List.set_cons_zero, List.set_cons_succ, List.getElem_toArray, List.getElem_cons_succ, List.getElem_cons_zero]
          refine wpAnyH_ready (rs := [4]) (by kernel_rfl) (by simp) ?_
          refine AllReadyH.cons rfl (fun K hK => ?_) AllReadyH.nil
          go_simp
          refine (c_impl_AddEvent _ _ _ _ _ a0.evs _ _ _ (o_y__.ls encEv_len) hn0 (Nat.le_refl _)).mono ?_
          rintro e v12_11 ⟨A_h, C_h, rfl, o_h, hd⟩
          replace o_h := o_h.mono hHeld.1.size
          go_wp2_with fail
          replace b6 := b6.below hd b6.lt
          have o_y___ := o_y__.below hd o_y__.lt
          refine hK.out _ _ (HK.out _ (blw hHeld.1 hd)) (fun hH2 => ?_)
          clear hK K hHeld
          have hHeld := hH2
          clear hH2
          clear hd
          try simp only [Act.put, List.setIfInBounds_toArray, List.set_cons_zero, List.set_cons_succ, List.getElem_toArray, List.getElem_cons_succ, List.getElem_cons_zero]
          refine wpAnyH_take (i := 5) (v := ?v43) rfl (by kernel_rfl) (by kernel_rfl) (by kernel_rfl) (fun _ _ _ h => h) (Or.inl ⟨by rfl, ?hy43⟩) hHeld ?rest43
          case hy43 => (intro W hSw; (try dsimp only at hSw); go_simp) <;> with_reducible rfl
          try simp only [Act.put, List.setIfInBounds_toArray, List.set_cons_zero, List.set_cons_succ, List.getElem_toArray, List.getElem_cons_succ, List.getElem_cons_zero]
          refine wpAnyH_take (i := 6) (v := ?v44) rfl (by kernel_rfl) (by kernel_rfl) (by kernel_rfl) (fun _ _ _ h => h) (Or.inl ⟨by rfl, ?hy44⟩) hHeld ?rest44
          case hy44 => (intro W hSw; (try dsimp only at hSw); go_simp) <;> with_reducible rfl
          try simp only [Act.put, List.setIfInBounds_toArray, List.set_cons_zero, List.set_cons_succ, List.getElem_toArray, List.getElem_cons_succ, List.getElem_cons_zero]
          refine wpAnyH_take (i := 7) (v := ?v45) rfl (by kernel_rfl) (by kernel_rfl) (by kernel_rfl) (fun _ _ _ h => h) (Or.inl ⟨by rfl, ?hy45⟩) hHeld ?rest45
          case hy45 => (intro W hSw; (try dsimp only at hSw); go_simp) <;> with_reducible rfl
          try simp only [Act.put, List.setIfInBounds_toArray, List.set_cons_zero, List.set_cons_succ, List.getElem_toArray, List.getElem_cons_succ, List.getElem_cons_zero]
          refine wpAnyH_ready (rs := [9]) (by kernel_rfl) (by simp) ?_
          refine AllReadyH.cons rfl (fun K hK => ?_) AllReadyH.nil
          have c60 := b6.cell 0
          have c61 := b6.cell 1
          have c62 := b6.cell 2
          have c63 := b6.cell 3
          have f60 := b6.frozen 0
          have f61 := b6.frozen 1
          have f62 := b6.frozen 2
          have f63 := b6.frozen 3
          go_simp
          refine hK.out _ _ (HK.out _ (Below.setCell (Below.setCell (Below.setCell (Below.setCell hHeld.1 (p := ⟨N6, 0, none⟩) hzN (.int .i64 (keepI (addB a0.id a0.series a0.made a0.evs (a1.1, a1.2)) a0.id))) (p := ⟨N6, 1, none⟩) hzN (.int .i64 (keepI (addB a0.id a0.series a0.made a0.evs (a1.1, a1.2)) a0.series))) (p := ⟨N6, 2, none⟩) hzN (.int .i64 (keepI (addB a0.id a0.series a0.made a0.evs (a1.1, a1.2)) a0.made))) (p := ⟨N6, 3, none⟩) hzN (.slice A_h (addL a0.id a0.series a0.made a0.evs (a1.1, a1.2)).length C_h))) (fun hH2 => ?_)
          clear hK K hHeld
          have hHeld := hH2
          clear hH2
          have hwr : Wr (fun q => q = N6) v12_11 ((((v12_11.setCell ⟨N6, 0, none⟩ (.int .i64 (keepI (addB a0.id a0.series a0.made a0.evs (a1.1, a1.2)) a0.id))).setCell ⟨N6, 1, none⟩ (.int .i64 (keepI (addB a0.id a0.series a0.made a0.evs (a1.1, a1.2)) a0.series))).setCell ⟨N6, 2, none⟩ (.int .i64 (keepI (addB a0.id a0.series a0.made a0.evs (a1.1, a1.2)) a0.made))).setCell ⟨N6, 3, none⟩ (.slice A_h (addL a0.id a0.series a0.made a0.evs (a1.1, a1.2)).length C_h)) := (Wr.setCell (p := ⟨N6, 3, none⟩) (Wr.setCell (p := ⟨N6, 2, none⟩) (Wr.setCell (p := ⟨N6, 1, none⟩) (Wr.setCell (p := ⟨N6, 0, none⟩) (Wr.refl (fun q => q = N6) v12_11) (.inl rfl) (.int .i64 (keepI (addB a0.id a0.series a0.made a0.evs (a1.1, a1.2)) a0.id))) (.inl rfl) (.int .i64 (keepI (addB a0.id a0.series a0.made a0.evs (a1.1, a1.2)) a0.series))) (.inl rfl) (.int .i64 (keepI (addB a0.id a0.series a0.made a0.evs (a1.1, a1.2)) a0.made))) (.inl rfl) (.slice A_h (addL a0.id a0.series a0.made a0.evs (a1.1, a1.2)).length C_h))
          have ho8 : Blk ((((v12_11.setCell ⟨N6, 0, none⟩ (.int .i64 (keepI (addB a0.id a0.series a0.made a0.evs (a1.1, a1.2)) a0.id))).setCell ⟨N6, 1, none⟩ (.int .i64 (keepI (addB a0.id a0.series a0.made a0.evs (a1.1, a1.2)) a0.series))).setCell ⟨N6, 2, none⟩ (.int .i64 (keepI (addB a0.id a0.series a0.made a0.evs (a1.1, a1.2)) a0.made))).setCell ⟨N6, 3, none⟩ (.slice A_h (addL a0.id a0.series a0.made a0.evs (a1.1, a1.2)).length C_h)) N6 30 #[.int .i64 (keepI (addB a0.id a0.series a0.made a0.evs (a1.1, a1.2)) a0.id), .int .i64 (keepI (addB a0.id a0.series a0.made a0.evs (a1.1, a1.2)) a0.series), .int .i64 (keepI (addB a0.id a0.series a0.made a0.evs (a1.1, a1.2)) a0.made), .slice A_h (addL a0.id a0.series a0.made a0.evs (a1.1, a1.2)).length C_h] := by
            have h := (Blk.set_ (Blk.set_ (Blk.set_ (Blk.set_ b6 0 (.int .i64 (keepI (addB a0.id a0.series a0.made a0.evs (a1.1, a1.2)) a0.id))) 1 (.int .i64 (keepI (addB a0.id a0.series a0.made a0.evs (a1.1, a1.2)) a0.series))) 2 (.int .i64 (keepI (addB a0.id a0.series a0.made a0.evs (a1.1, a1.2)) a0.made))) 3 (.slice A_h (addL a0.id a0.series a0.made a0.evs (a1.1, a1.2)).length C_h))
            simpa using h
          have hv8 := o_h.wr1 hwr (o_h.ne_blk2 b6 (by decide))
          try simp only [Act.put, List.setIfInBounds_toArray, List.set_cons_zero, List.set_cons_succ, List.getElem_toArray, List.getElem_cons_succ, List.getElem_cons_zero]
          refine wpAnyH_take (i := 10) (v := ?v46) rfl (by kernel_rfl) (by kernel_rfl) (by kernel_rfl) (fun _ _ _ h => h) (Or.inl ⟨by rfl, ?hy46⟩) hHeld ?rest46
          case hy46 => (intro W hSw; (try dsimp only at hSw); go_simp) <;> with_reducible rfl
          try simp only [Act.put, List.setIfInBounds_toArray, List.set_cons_zero, List.set_cons_succ, List.getElem_toArray, List.getElem_cons_succ, List.getElem_cons_zero]
          refine wpAnyH_done (by kernel_rfl) ?_ _
          refine NoPanic.normal ?_
          exact HT12.out _ _ _ _ _ _ _ _ _ _ _ _ _ _ _ _ _ _ _ _ _ _ _ _ _ _ _ _ _ _ _ _ _ _ _ _ _ _ _ _ _ _ _ _ _ _ _ _ _ _ _ _ _ _ _ _ _ _ _ _ _ _ _ _ _ _ _ _ _ _ _ _ _ _ _ _ _ _ _ _ _ _ _ _ _ _ _ _ _ _ _ _ _ _ _ _ _ hHeld.1 hv8 ho8 hzN
      · go_simp
        refine hK.out _ _ (HK.out _ (Below.alloc hHeld.1 hHeld.1.size _)) (fun hH2 => ?_)
        have hzN : w11.heap.size ≤ v12_0.heap.size := hHeld.1.size
        clear hK K hHeld
        have hHeld := hH2
        clear hH2
        have b6 : Blk (v12_0.alloc (.cells #[.int .i64 0, .int .i64 0, .int .i64 0, .slice none 0 0] 30)) v12_0.heap.size 30 #[.int .i64 0, .int .i64 0, .int .i64 0, .slice none 0 0] := Blk.new _ _ _
        generalize (v12_0.alloc (.cells #[.int .i64 0, .int .i64 0, .int .i64 0, .slice none 0 0] 30)) = v12_13 at *
        generalize v12_0.heap.size = N6 at *
        try simp only [Act.put, List.setIfInBounds_toArray, List.set_cons_zero, List.set_cons_succ, List.getElem_toArray, List.getElem_cons_succ, List.getElem_cons_zero]
        refine wpAnyH_ready (rs := [1]) (by kernel_rfl) (by simp) ?_
        refine AllReadyH.cons rfl (fun K hK => ?_) AllReadyH.nil
        go_simp
        refine (toRecord_any _ _ _ _ _ a0.evs _ (HLr0.out _ hHeld.1) hn0).mono ?_
        rintro e v12_14 ⟨g_y, gl_y, rfl, o_y, hd⟩
        go_wp2_with fail
        replace b6 := b6.below hd b6.lt
        refine hK.out _ _ (HK.out _ (blw hHeld.1 hd)) (fun hH2 => ?_)
        clear hK K hHeld
        have hHeld := hH2
        clear hH2
        clear hd
        try simp only [Act.put, List.setIfInBounds_toArray, List.set_cons_zero, List.set_cons_succ, List.getElem_toArray, List.getElem_cons_succ, List.getElem_cons_zero]
        refine wpAnyH_ready (rs := [3]) (by kernel_rfl) (by simp) ?_
        refine AllReadyH.cons rfl (fun K hK => ?_) AllReadyH.nil
        go_simp
        refine (toEvent_v _ _ _).mono ?_
        rintro e v12_15 ⟨rfl, hd⟩
        go_wp2_with fail
        replace b6 := b6.below hd b6.lt
        have o_y_ := o_y.below hd o_y.lt
        refine hK.out _ _ (HK.out _ (blw hHeld.1 hd)) (fun hH2 => ?_)
        clear hK K hHeld
        have hHeld := hH2
        clear hH2
        clear hd
        try simp only [Act.put, List.setIfInBounds_toArray, List.set_cons_zero, List.set_cons_succ, List.getElem_toArray, List.getElem_cons_succ, List.getElem_cons_zero]
        refine wpAnyH_ready (rs := [4]) (by kernel_rfl) (by simp) ?_
        refine AllReadyH.cons rfl (fun K hK => ?_) AllReadyH.nil
        go_simp
        refine (c_impl_AddEvent _ _ _ _ _ a0.evs _ _ _ (o_y_.ls encEv_len) hn0 (Nat.le_refl _)).mono ?_
        rintro e v12_16 ⟨A_h, C_h, rfl, o_h, hd⟩
        replace o_h := o_h.mono hHeld.1.size
        go_wp2_with fail
        replace b6 := b6.below hd b6.lt
        have o_y__ := o_y_.below hd o_y_.lt
        refine hK.out _ _ (HK.out _ (blw hHeld.1 hd)) (fun hH2 => ?_)
        clear hK K hHeld
        have hHeld := hH2
        clear hH2
        clear hd
        try simp only [Act.put, List.setIfInBounds_toArray, List.set_cons_zero, List.set_cons_succ, List.getElem_toArray, List.getElem_cons_succ, List.getElem_cons_zero]
        refine wpAnyH_take (i := 5) (v := ?v47) rfl (by kernel_rfl) (by kernel_rfl) (by kernel_rfl) (fun _ _ _ h => h) (Or.inl ⟨by rfl, ?hy47⟩) hHeld ?rest47
        case hy47 => (intro W hSw; (try dsimp only at hSw); go_simp) <;> with_reducible rfl
        try simp only [Act.put, List.setIfInBounds_toArray, List.set_cons_zero, List.set_cons_succ, List.getElem_toArray, List.getElem_cons_succ, List.getElem_cons_zero]
        refine wpAnyH_take (i := 6) (v := ?v48) rfl (by kernel_rfl) (by kernel_rfl) (by kernel_rfl) (fun _ _ _ h => h) (Or.inl ⟨by rfl, ?hy48⟩) hHeld ?rest48
        case hy48 => (intro W hSw; (try dsimp only at hSw); go_simp) <;> with_reducible rfl
        try simp only [Act.put, List.setIfInBounds_toArray, List.set_cons_zero, List.set_cons_succ, List.getElem_toArray, List.getElem_cons_succ, List.getElem_cons_zero]
        refine wpAnyH_take (i := 7) (v := ?v49) rfl (by kernel_rfl) (by kernel_rfl) (by kernel_rfl) (fun _ _ _ h => h) (Or.inl ⟨by rfl, ?hy49⟩) hHeld ?rest49
        case hy49 => (intro W hSw; (try dsimp only at hSw); go_simp) <;> with_reducible rfl
        try simp only [Act.put, List.setIfInBounds_toArray, List.set_cons_zero, List.set_cons_succ, List.getElem_toArray, List.getElem_cons_succ, List.getElem_cons_zero]
        refine wpAnyH_ready (rs := [9]) (by kernel_rfl) (by simp) ?_
        refine AllReadyH.cons rfl (fun K hK => ?_) AllReadyH.nil
        have c60 := b6.cell 0
        have c61 := b6.cell 1
        have c62 := b6.cell 2
        have c63 := b6.cell 3
        have f60 := b6.frozen 0
        have f61 := b6.frozen 1
        have f62 := b6.frozen 2
        have f63 := b6.frozen 3
        go_simp
        refine hK.out _ _ (HK.out _ (Below.setCell (Below.setCell (Below.setCell (Below.setCell hHeld.1 (p := ⟨N6, 0, none⟩) hzN (.int .i64 (keepI (addB a0.id a0.series a0.made a0.evs (a1.1, a1.2)) a0.id))) (p := ⟨N6, 1, none⟩) hzN (.int .i64 (keepI (addB a0.id a0.series a0.made a0.evs (a1.1, a1.2)) a0.series))) (p := ⟨N6, 2, none⟩) hzN (.int .i64 (keepI (addB a0.id a0.series a0.made a0.evs (a1.1, a1.2)) a0.made))) (p := ⟨N6, 3, none⟩) hzN (.slice A_h (addL a0.id a0.series a0.made a0.evs (a1.1, a1.2)).length C_h))) (fun hH2 => ?_)
        clear hK K hHeld
        have hHeld := hH2
        clear hH2
        have hwr : Wr (fun q => q = N6) v12_16 ((((v12_16.setCell ⟨N6, 0, none⟩ (.int .i64 (keepI (addB a0.id a0.series a0.made a0.evs (a1.1, a1.2)) a0.id))).setCell ⟨N6, 1, none⟩ (.int .i64 (keepI (addB a0.id a0.series a0.made a0.evs (a1.1, a1.2)) a0.series))).setCell ⟨N6, 2, none⟩ (.int .i64 (keepI (addB a0.id a0.series a0.made a0.evs (a1.1, a1.2)) a0.made))).setCell ⟨N6, 3, none⟩ (.slice A_h (addL a0.id a0.series a0.made a0.evs (a1.1, a1.2)).length C_h)) := (Wr.setCell (p := ⟨N6, 3, none⟩) (Wr.setCell (p := ⟨N6, 2, none⟩) (Wr.setCell (p := ⟨N6, 1, none⟩) (Wr.setCell (p := ⟨N6, 0, none⟩) (Wr.refl (fun q => q = N6) v12_16) (.inl rfl) (.int .i64 (keepI (addB a0.id a0.series a0.made a0.evs (a1.1, a1.2)) a0.id))) (.inl rfl) (.int .i64 (keepI (addB a0.id a0.series a0.made a0.evs (a1.1, a1.2)) a0.series))) (.inl rfl) (.int .i64 (keepI (addB a0.id a0.series a0.made a0.evs (a1.1, a1.2)) a0.made))) (.inl rfl) (.slice A_h (addL a0.id a0.series a0.made a0.evs (a1.1, a1.2)).length C_h))
        have ho8 : Blk ((((v12_16.setCell ⟨N6, 0, none⟩ (.int .i64 (keepI (addB a0.id a0.series a0.made a0.evs (a1.1, a1.2)) a0.id))).setCell ⟨N6, 1, none⟩ (.int .i64 (keepI (addB a0.id a0.series a0.made a0.evs (a1.1, a1.2)) a0.series))).setCell ⟨N6, 2, none⟩ (.int .i64 (keepI (addB a0.id a0.series a0.made a0.evs (a1.1, a1.2)) a0.made))).setCell ⟨N6, 3, none⟩ (.slice A_h (addL a0.id a0.series a0.made a0.evs (a1.1, a1.2)).length C_h)) N6 30 #[.int .i64 (keepI (addB a0.id a0.series a0.made a0.evs (a1.1, a1.2)) a0.id), .int .i64 (keepI (addB a0.id a0.series a0.made a0.evs (a1.1, a1.2)) a0.series), .int .i64 (keepI (addB a0.id a0.series a0.made a0.evs (a1.1, a1.2)) a0.made), .slice A_h (addL a0.id a0.series a0.made a0.evs (a1.1, a1.2)).length C_h] := by
          have h := (Blk.set_ (Blk.set_ (Blk.set_ (Blk.set_ b6 0 (.int .i64 (keepI (addB a0.id a0.series a0.made a0.evs (a1.1, a1.2)) a0.id))) 1 (.int .i64 (keepI (addB a0.id a0.series a0.made a0.evs (a1.1, a1.2)) a0.series))) 2 (.int .i64 (keepI (addB a0.id a0.series a0.made a0.evs (a1.1, a1.2)) a0.made))) 3 (.slice A_h (addL a0.id a0.series a0.made a0.evs (a1.1, a1.2)).length C_h))
          simpa using h
        have hv8 := o_h.wr1 hwr (o_h.ne_blk2 b6 (by decide))
        try simp only [Act.put, List.setIfInBounds_toArray, List.set_cons_zero, List.set_cons_succ, List.getElem_toArray, List.getElem_cons_succ, List.getElem_cons_zero]
        refine wpAnyH_take (i := 10) (v := ?v50) rfl (by kernel_rfl) (by kernel_rfl) (by kernel_rfl) (fun _ _ _ h => h) (Or.inl ⟨by rfl, ?hy50⟩) hHeld ?rest50
        case hy50 => (intro W hSw; (try dsimp only at hSw); go_simp) <;> with_reducible rfl
        try simp only [Act.put, List.setIfInBounds_toArray, List.set_cons_zero, List.set_cons_succ, List.getElem_toArray, List.getElem_cons_succ, List.getElem_cons_zero]
        refine wpAnyH_done (by kernel_rfl) ?_ _
        refine NoPanic.normal ?_
        exact HT12.out _ _ _ _ _ _ _ _ _ _ _ _ _ _ _ _ _ _ _ _ _ _ _ _ _ _ _ _ _ _ _ _ _ _ _ _ _ _ _ _ _ _ _ _ _ _ _ _ _ _ _ _ _ _ _ _ _ _ _ _ _ _ _ _ _ _ _ _ _ _ _ _ _ _ _ _ _ _ _ _ _ _ _ _ _ _ _ _ _ _ _ _ _ _ _ _ _ hHeld.1 hv8 ho8 hzN
    have HK : Hid (∀ W, Below wA1.heap.size wA1 W → Below wA1.heap.size wA1 W ∧ W.cell? ⟨w.heap.size, 0, none⟩ = some (.int .i64 a0.id) ∧ W.cell? ⟨w.heap.size, 1, none⟩ = some (.int .i64 a0.series) ∧ W.cell? ⟨w.heap.size, 2, none⟩ = some (.int .i64 a0.made) ∧ W.cell? ⟨w.heap.size, 3, none⟩ = some (.slice a0.A a0.evs.length a0.c) ∧ W.cell? ⟨w.heap.size + 1, 0, none⟩ = some (.int .i64 a1.1) ∧ W.cell? ⟨w.heap.size + 1, 1, none⟩ = some (.int .i64 a1.2) ∧ W.cell? ⟨w3.heap.size, 0, none⟩ = some (.int .i64 a0.id) ∧ W.cell? ⟨w3.heap.size, 1, none⟩ = some (.int .i64 a0.series) ∧ W.cell? ⟨w3.heap.size, 2, none⟩ = some (.int .i64 a0.made) ∧ W.cell? ⟨w3.heap.size, 3, none⟩ = some (.slice (some ⟨g_x0, 0, none⟩) a0.evs.length a0.evs.length)) := fun W hb => ⟨hb, (hb.cell (p := ⟨_, _, _⟩) bl0).trans bx0_0, (hb.cell (p := ⟨_, _, _⟩) bl0).trans bx0_1, (hb.cell (p := ⟨_, _, _⟩) bl0).trans bx0_2, (hb.cell (p := ⟨_, _, _⟩) bl0).trans bx0_3, (hb.cell (p := ⟨_, _, _⟩) bl1).trans bx1_0, (hb.cell (p := ⟨_, _, _⟩) bl1).trans bx1_1, (hb.cell (p := ⟨_, _, _⟩) xb0l).trans xb0_0, (hb.cell (p := ⟨_, _, _⟩) xb0l).trans xb0_1, (hb.cell (p := ⟨_, _, _⟩) xb0l).trans xb0_2, (hb.cell (p := ⟨_, _, _⟩) xb0l).trans xb0_3⟩
    have HLr0 : Hid (∀ W, Below wA1.heap.size wA1 W → Ls W W.heap.size encEv 2 a0.A a0.evs) := fun W hb => ((hl0.below (blw hA1 hb)).more (blw hA1 hb).size)
    have p_x0 : Own wA1.drew g_x0 34 encEv 2 a0.evs := o_x0
    refine wp_region_noPanic ?_
    refine wp_region_held_drew (S := fun W => Below wA1.heap.size wA1 W ∧ W.cell? ⟨w.heap.size, 0, none⟩ = some (.int .i64 a0.id) ∧ W.cell? ⟨w.heap.size, 1, none⟩ = some (.int .i64 a0.series) ∧ W.cell? ⟨w.heap.size, 2, none⟩ = some (.int .i64 a0.made) ∧ W.cell? ⟨w.heap.size, 3, none⟩ = some (.slice a0.A a0.evs.length a0.c) ∧ W.cell? ⟨w.heap.size + 1, 0, none⟩ = some (.int .i64 a1.1) ∧ W.cell? ⟨w.heap.size + 1, 1, none⟩ = some (.int .i64 a1.2) ∧ W.cell? ⟨w3.heap.size, 0, none⟩ = some (.int .i64 a0.id) ∧ W.cell? ⟨w3.heap.size, 1, none⟩ = some (.int .i64 a0.series) ∧ W.cell? ⟨w3.heap.size, 2, none⟩ = some (.int .i64 a0.made) ∧ W.cell? ⟨w3.heap.size, 3, none⟩ = some (.slice (some ⟨g_x0, 0, none⟩) a0.evs.length a0.evs.length)) (by kernel_rfl) (HK.out _ (Below.refl _ _).drew) (fun hHeld => ?_)
    generalize wA1.drew = v4_0 at *
    refine wpAnyH_take (i := 0) (v := ?v19) rfl (by kernel_rfl) (by kernel_rfl) (by kernel_rfl) (fun _ _ _ h => h) (Or.inl ⟨by rfl, ?hy19⟩) hHeld ?rest19
    case hy19 => (intro W hSw; (try dsimp only at hSw); go_simp) <;> with_reducible rfl
    try simp only [Act.put, List.setIfInBounds_toArray, List.set_cons_zero, List.set_cons_succ, List.getElem_toArray, List.getElem_cons_succ, List.getElem_cons_zero]
    refine wpAnyH_take (i := 1) (v := ?v20) rfl (by kernel_rfl) (by kernel_rfl) (by kernel_rfl) (fun _ _ _ h => h) (Or.inl ⟨by rfl, ?hy20⟩) hHeld ?rest20
    case hy20 => (intro W hSw; (try dsimp only at hSw); go_simp) <;> with_reducible rfl
    try simp only [Act.put, List.setIfInBounds_toArray, List.set_cons_zero, List.set_cons_succ, List.getElem_toArray, List.getElem_cons_succ, List.getElem_cons_zero]
    refine wpAnyH_ready (rs := [2, 7]) (by kernel_rfl) (by simp) ?_
    refine AllReadyH.cons rfl (fun K hK => ?_) (AllReadyH.cons rfl (fun K hK => ?_) AllReadyH.nil)
    · go_simp
      refine (toEvent_v _ _ _).mono ?_
      rintro e v4_1 ⟨rfl, hd⟩
      go_wp2_with fail
      have p_x0_ := p_x0.below hd p_x0.lt
      refine hK.out _ _ (HK.out _ (blw hHeld.1 hd)) (fun hH2 => ?_)
      clear hK K hHeld
      have hHeld := hH2
      clear hH2
      clear hd
      try simp only [Act.put, List.setIfInBounds_toArray, List.set_cons_zero, List.set_cons_succ, List.getElem_toArray, List.getElem_cons_succ, List.getElem_cons_zero]
      refine wpAnyH_ready (rs := [3, 7]) (by kernel_rfl) (by simp) ?_
      refine AllReadyH.cons rfl (fun K hK => ?_) (AllReadyH.cons rfl (fun K hK => ?_) AllReadyH.nil)
      · go_simp
        refine (c_impl_AddEvent _ _ _ _ _ a0.evs _ _ _ (p_x0_.ls encEv_len) hn0 (Nat.le_refl _)).mono ?_
        rintro e v4_2 ⟨A_g, C_g, rfl, o_g, hd⟩
        replace o_g := o_g.mono hHeld.1.size
        go_wp2_with fail
        have p_x0__ := p_x0_.below hd p_x0_.lt
        refine hK.out _ _ (HK.out _ (blw hHeld.1 hd)) (fun hH2 => ?_)
        clear hK K hHeld
        have hHeld := hH2
        clear hH2
        clear hd
        try simp only [Act.put, List.setIfInBounds_toArray, List.set_cons_zero, List.set_cons_succ, List.getElem_toArray, List.getElem_cons_succ, List.getElem_cons_zero]
        refine wpAnyH_take (i := 4) (v := ?v21) rfl (by kernel_rfl) (by kernel_rfl) (by kernel_rfl) (fun _ _ _ h => h) (Or.inl ⟨by rfl, ?hy21⟩) hHeld ?rest21
        case hy21 => (intro W hSw; (try dsimp only at hSw); go_simp) <;> with_reducible rfl
        try simp only [Act.put, List.setIfInBounds_toArray, List.set_cons_zero, List.set_cons_succ, List.getElem_toArray, List.getElem_cons_succ, List.getElem_cons_zero]
        refine wpAnyH_take (i := 5) (v := ?v22) rfl (by kernel_rfl) (by kernel_rfl) (by kernel_rfl) (fun _ _ _ h => h) (Or.inl ⟨by rfl, ?hy22⟩) hHeld ?rest22
        case hy22 => (intro W hSw; (try dsimp only at hSw); go_simp) <;> with_reducible rfl
        try simp only [Act.put, List.setIfInBounds_toArray, List.set_cons_zero, List.set_cons_succ, List.getElem_toArray, List.getElem_cons_succ, List.getElem_cons_zero]
        refine wpAnyH_take (i := 6) (v := ?v23) rfl (by kernel_rfl) (by kernel_rfl) (by kernel_rfl) (fun _ _ _ h => h) (Or.inl ⟨by rfl, ?hy23⟩) hHeld ?rest23
        case hy23 => (intro W hSw; (try dsimp only at hSw); go_simp) <;> with_reducible rfl
        try simp only [Act.put, List.setIfInBounds_toArray, List.set_cons_zero, List.set_cons_succ, List.getElem_toArray, List.getElem_cons_succ, List.getElem_cons_zero]
        refine wpAnyH_ready (rs := [7]) (by kernel_rfl) (by simp) ?_
        refine AllReadyH.cons rfl (fun K hK => ?_) AllReadyH.nil
        go_simp
        refine hK.out _ _ (HK.out _ (Below.alloc hHeld.1 hHeld.1.size _)) (fun hH2 => ?_)
        have hzN : wA1.heap.size ≤ v4_2.heap.size := hHeld.1.size
        clear hK K hHeld
        have hHeld := hH2
        clear hH2
        have p_x0___ := p_x0__.alloc (.cells #[.int .i64 0, .int .i64 0, .int .i64 0, .slice none 0 0] 30)
        replace o_g := o_g.alloc (.cells #[.int .i64 0, .int .i64 0, .int .i64 0, .slice none 0 0] 30)
        have b6 : Blk (v4_2.alloc (.cells #[.int .i64 0, .int .i64 0, .int .i64 0, .slice none 0 0] 30)) v4_2.heap.size 30 #[.int .i64 0, .int .i64 0, .int .i64 0, .slice none 0 0] := Blk.new _ _ _
        generalize (v4_2.alloc (.cells #[.int .i64 0, .int .i64 0, .int .i64 0, .slice none 0 0] 30)) = v4_3 at *
        generalize v4_2.heap.size = N6 at *
        try simp only [Act.put, List.setIfInBounds_toArray, List.set_cons_zero, List.set_cons_succ, List.getElem_toArray, List.getElem_cons_succ, List.getElem_cons_zero]
        refine wpAnyH_ready (rs := [8]) (by kernel_rfl) (by simp) ?_
        refine AllReadyH.cons rfl (fun K hK => ?_) AllReadyH.nil
        have c60 := b6.cell 0
        have c61 := b6.cell 1
        have c62 := b6.cell 2
        have c63 := b6.cell 3
        have f60 := b6.frozen 0
        have f61 := b6.frozen 1
        have f62 := b6.frozen 2
        have f63 := b6.frozen 3
        go_simp
        refine hK.out _ _ (HK.out _ (Below.setCell (Below.setCell (Below.setCell (Below.setCell hHeld.1 (p := ⟨N6, 0, none⟩) hzN (.int .i64 (keepI (addB a0.id a0.series a0.made a0.evs (a1.1, a1.2)) a0.id))) (p := ⟨N6, 1, none⟩) hzN (.int .i64 (keepI (addB a0.id a0.series a0.made a0.evs (a1.1, a1.2)) a0.series))) (p := ⟨N6, 2, none⟩) hzN (.int .i64 (keepI (addB a0.id a0.series a0.made a0.evs (a1.1, a1.2)) a0.made))) (p := ⟨N6, 3, none⟩) hzN (.slice A_g (addL a0.id a0.series a0.made a0.evs (a1.1, a1.2)).length C_g))) (fun hH2 => ?_)
        clear hK K hHeld
        have hHeld := hH2
        clear hH2
        have hwr : Wr (fun q => q = N6) v4_3 ((((v4_3.setCell ⟨N6, 0, none⟩ (.int .i64 (keepI (addB a0.id a0.series a0.made a0.evs (a1.1, a1.2)) a0.id))).setCell ⟨N6, 1, none⟩ (.int .i64 (keepI (addB a0.id a0.series a0.made a0.evs (a1.1, a1.2)) a0.series))).setCell ⟨N6, 2, none⟩ (.int .i64 (keepI (addB a0.id a0.series a0.made a0.evs (a1.1, a1.2)) a0.made))).setCell ⟨N6, 3, none⟩ (.slice A_g (addL a0.id a0.series a0.made a0.evs (a1.1, a1.2)).length C_g)) := (Wr.setCell (p := ⟨N6, 3, none⟩) (Wr.setCell (p := ⟨N6, 2, none⟩) (Wr.setCell (p := ⟨N6, 1, none⟩) (Wr.setCell (p := ⟨N6, 0, none⟩) (Wr.refl (fun q => q = N6) v4_3) (.inl rfl) (.int .i64 (keepI (addB a0.id a0.series a0.made a0.evs (a1.1, a1.2)) a0.id))) (.inl rfl) (.int .i64 (keepI (addB a0.id a0.series a0.made a0.evs (a1.1, a1.2)) a0.series))) (.inl rfl) (.int .i64 (keepI (addB a0.id a0.series a0.made a0.evs (a1.1, a1.2)) a0.made))) (.inl rfl) (.slice A_g (addL a0.id a0.series a0.made a0.evs (a1.1, a1.2)).length C_g))
        have ho8 : Blk ((((v4_3.setCell ⟨N6, 0, none⟩ (.int .i64 (keepI (addB a0.id a0.series a0.made a0.evs (a1.1, a1.2)) a0.id))).setCell ⟨N6, 1, none⟩ (.int .i64 (keepI (addB a0.id a0.series a0.made a0.evs (a1.1, a1.2)) a0.series))).setCell ⟨N6, 2, none⟩ (.int .i64 (keepI (addB a0.id a0.series a0.made a0.evs (a1.1, a1.2)) a0.made))).setCell ⟨N6, 3, none⟩ (.slice A_g (addL a0.id a0.series a0.made a0.evs (a1.1, a1.2)).length C_g)) N6 30 #[.int .i64 (keepI (addB a0.id a0.series a0.made a0.evs (a1.1, a1.2)) a0.id), .int .i64 (keepI (addB a0.id a0.series a0.made a0.evs (a1.1, a1.2)) a0.series), .int .i64 (keepI (addB a0.id a0.series a0.made a0.evs (a1.1, a1.2)) a0.made), .slice A_g (addL a0.id a0.series a0.made a0.evs (a1.1, a1.2)).length C_g] := by
          have h := (Blk.set_ (Blk.set_ (Blk.set_ (Blk.set_ b6 0 (.int .i64 (keepI (addB a0.id a0.series a0.made a0.evs (a1.1, a1.2)) a0.id))) 1 (.int .i64 (keepI (addB a0.id a0.series a0.made a0.evs (a1.1, a1.2)) a0.series))) 2 (.int .i64 (keepI (addB a0.id a0.series a0.made a0.evs (a1.1, a1.2)) a0.made))) 3 (.slice A_g (addL a0.id a0.series a0.made a0.evs (a1.1, a1.2)).length C_g))
          simpa using h
        have hv8 := o_g.wr1 hwr (o_g.ne_blk2 b6 (by decide))
        try simp only [Act.put, List.setIfInBounds_toArray, List.set_cons_zero, List.set_cons_succ, List.getElem_toArray, List.getElem_cons_succ, List.getElem_cons_zero]
        refine wpAnyH_take (i := 9) (v := ?v24) rfl (by kernel_rfl) (by kernel_rfl) (by kernel_rfl) (fun _ _ _ h => h) (Or.inl ⟨by rfl, ?hy24⟩) hHeld ?rest24
        case hy24 => (intro W hSw; (try dsimp only at hSw); go_simp) <;> with_reducible rfl
        try simp only [Act.put, List.setIfInBounds_toArray, List.set_cons_zero, List.set_cons_succ, List.getElem_toArray, List.getElem_cons_succ, List.getElem_cons_zero]
        refine wpAnyH_done (by kernel_rfl) ?_ _
        refine NoPanic.normal ?_
        exact HT4.out _ _ _ _ _ _ _ _ _ _ _ _ _ _ _ _ _ _ _ _ _ _ _ _ _ _ _ _ _ _ _ _ _ _ _ _ _ _ _ _ _ _ _ _ _ _ _ _ _ _ _ _ _ _ _ _ _ _ _ _ _ _ _ _ _ _ _ _ _ _ _ _ _ _ _ _ _ _ _ _ _ _ _ _ _ _ _ _ _ _ _ _ _ _ _ _ _ _ _ _ hHeld.1 hv8 ho8 hzN
      · go_simp
        refine hK.out _ _ (HK.out _ (Below.alloc hHeld.1 hHeld.1.size _)) (fun hH2 => ?_)
        have hzN : wA1.heap.size ≤ v4_1.heap.size := hHeld.1.size
        clear hK K hHeld
        have hHeld := hH2
        clear hH2
        have p_x0__ := p_x0_.alloc (.cells #[.int .i64 0, .int .i64 0, .int .i64 0, .slice none 0 0] 30)
        have b6 : Blk (v4_1.alloc (.cells #[.int .i64 0, .int .i64 0, .int .i64 0, .slice none 0 0] 30)) v4_1.heap.size 30 #[.int .i64 0, .int .i64 0, .int .i64 0, .slice none 0 0] := Blk.new _ _ _
        generalize (v4_1.alloc (.cells #[.int .i64 0, .int .i64 0, .int .i64 0, .slice none 0 0] 30)) = v4_5 at *
        generalize v4_1.heap.size = N6 at *
        try simp only [Act.put, List.setIfInBounds_toArray, List.set_cons_zero, List.set_cons_succ, List.getElem_toArray, List.getElem_cons_succ, List.getElem_cons_zero]
        refine wpAnyH_ready (rs := [3]) (by kernel_rfl) (by simp) ?_
        refine AllReadyH.cons rfl (fun K hK => ?_) AllReadyH.nil
        go_simp
        refine (c_impl_AddEvent _ _ _ _ _ a0.evs _ _ _ (p_x0__.ls encEv_len) hn0 (Nat.le_refl _)).mono ?_
        rintro e v4_6 ⟨A_g, C_g, rfl, o_g, hd⟩
        replace o_g := o_g.mono hHeld.1.size
        go_wp2_with fail
        replace b6 := b6.below hd b6.lt
        have p_x0___ := p_x0__.below hd p_x0__.lt
        refine hK.out _ _ (HK.out _ (blw hHeld.1 hd)) (fun hH2 => ?_)
        clear hK K hHeld
        have hHeld := hH2
        clear hH2
        clear hd
        try simp only [Act.put, List.setIfInBounds_toArray, List.set_cons_zero, List.set_cons_succ, List.getElem_toArray, List.getElem_cons_succ, List.getElem_cons_zero]
        refine wpAnyH_take (i := 4) (v := ?v25) rfl (by kernel_rfl) (by kernel_rfl) (by kernel_rfl) (fun _ _ _ h => h) (Or.inl ⟨by rfl, ?hy25⟩) hHeld ?rest25
        case hy25 => (intro W hSw; (try dsimp only at hSw); go_simp) <;> with_reducible rfl
        try simp only [Act.put, List.setIfInBounds_toArray, List.set_cons_zero, List.set_cons_succ, List.getElem_toArray, List.getElem_cons_succ, List.getElem_cons_zero]
        refine wpAnyH_take (i := 5) (v := ?v26) rfl (by kernel_rfl) (by kernel_rfl) (by kernel_rfl) (fun _ _ _ h => h) (Or.inl ⟨by rfl, ?hy26⟩) hHeld ?rest26
        case hy26 => (intro W hSw; (try dsimp only at hSw); go_simp) <;> with_reducible rfl
        try simp only [Act.put, List.setIfInBounds_toArray, List.set_cons_zero, List.set_cons_succ, List.getElem_toArray, List.getElem_cons_succ, List.getElem_cons_zero]
        refine wpAnyH_take (i := 6) (v := ?v27) rfl (by kernel_rfl) (by kernel_rfl) (by kernel_rfl) (fun _ _ _ h => h) (Or.inl ⟨by rfl, ?hy27⟩) hHeld ?rest27
        case hy27 => (intro W hSw; (try dsimp only at hSw); go_simp) <;> with_reducible rfl
        try simp only [Act.put, List.setIfInBounds_toArray, List.set_cons_zero, List.set_cons_succ, List.getElem_toArray, List.getElem_cons_succ, List.getElem_cons_zero]
        refine wpAnyH_ready (rs := [8]) (by kernel_rfl) (by simp) ?_
        refine AllReadyH.cons rfl (fun K hK => ?_) AllReadyH.nil
        have c60 := b6.cell 0
        have c61 := b6.cell 1
        have c62 := b6.cell 2
        have c63 := b6.cell 3
        have f60 := b6.frozen 0
        have f61 := b6.frozen 1
        have f62 := b6.frozen 2
        have f63 := b6.frozen 3
        go_simp
        refine hK.out _ _ (HK.out _ (Below.setCell (Below.setCell (Below.setCell (Below.setCell hHeld.1 (p := ⟨N6, 0, none⟩) hzN (.int .i64 (keepI (addB a0.id a0.series a0.made a0.evs (a1.1, a1.2)) a0.id))) (p := ⟨N6, 1, none⟩) hzN (.int .i64 (keepI (addB a0.id a0.series a0.made a0.evs (a1.1, a1.2)) a0.series))) (p := ⟨N6, 2, none⟩) hzN (.int .i64 (keepI (addB a0.id a0.series a0.made a0.evs (a1.1, a1.2)) a0.made))) (p := ⟨N6, 3, none⟩) hzN (.slice A_g (addL a0.id a0.series a0.made a0.evs (a1.1, a1.2)).length C_g))) (fun hH2 => ?_)
        clear hK K hHeld
        have hHeld := hH2
        clear hH2
        have hwr : Wr (fun q => q = N6) v4_6 ((((v4_6.setCell ⟨N6, 0, none⟩ (.int .i64 (keepI (addB a0.id a0.series a0.made a0.evs (a1.1, a1.2)) a0.id))).setCell ⟨N6, 1, none⟩ (.int .i64 (keepI (addB a0.id a0.series a0.made a0.evs (a1.1, a1.2)) a0.series))).setCell ⟨N6, 2, none⟩ (.int .i64 (keepI (addB a0.id a0.series a0.made a0.evs (a1.1, a1.2)) a0.made))).setCell ⟨N6, 3, none⟩ (.slice A_g (addL a0.id a0.series a0.made a0.evs (a1.1, a1.2)).length C_g)) := (Wr.setCell (p := ⟨N6, 3, none⟩) (Wr.setCell (p := ⟨N6, 2, none⟩) (Wr.setCell (p := ⟨N6, 1, none⟩) (Wr.setCell (p := ⟨N6, 0, none⟩) (Wr.refl (fun q => q = N6) v4_6) (.inl rfl) (.int .i64 (keepI (addB a0.id a0.series a0.made a0.evs (a1.1, a1.2)) a0.id))) (.inl rfl) (.int .i64 (keepI (addB a0.id a0.series a0.made a0.evs (a1.1, a1.2)) a0.series))) (.inl rfl) (.int .i64 (keepI (addB a0.id a0.series a0.made a0.evs (a1.1, a1.2)) a0.made))) (.inl rfl) (.slice A_g (addL a0.id a0.series a0.made a0.evs (a1.1, a1.2)).length C_g))
        have ho8 : Blk ((((v4_6.setCell ⟨N6, 0, none⟩ (.int .i64 (keepI (addB a0.id a0.series a0.made a0.evs (a1.1, a1.2)) a0.id))).setCell ⟨N6, 1, none⟩ (.int .i64 (keepI (addB a0.id a0.series a0.made a0.evs (a1.1, a1.2)) a0.series))).setCell ⟨N6, 2, none⟩ (.int .i64 (keepI (addB a0.id a0.series a0.made a0.evs (a1.1, a1.2)) a0.made))).setCell ⟨N6, 3, none⟩ (.slice A_g (addL a0.id a0.series a0.made a0.evs (a1.1, a1.2)).length C_g)) N6 30 #[.int .i64 (keepI (addB a0.id a0.series a0.made a0.evs (a1.1, a1.2)) a0.id), .int .i64 (keepI (addB a0.id a0.series a0.made a0.evs (a1.1, a1.2)) a0.series), .int .i64 (keepI (addB a0.id a0.series a0.made a0.evs (a1.1, a1.2)) a0.made), .slice A_g (addL a0.id a0.series a0.made a0.evs (a1.1, a1.2)).length C_g] := by
          have h := (Blk.set_ (Blk.set_ (Blk.set_ (Blk.set_ b6 0 (.int .i64 (keepI (addB a0.id a0.series a0.made a0.evs (a1.1, a1.2)) a0.id))) 1 (.int .i64 (keepI (addB a0.id a0.series a0.made a0.evs (a1.1, a1.2)) a0.series))) 2 (.int .i64 (keepI (addB a0.id a0.series a0.made a0.evs (a1.1, a1.2)) a0.made))) 3 (.slice A_g (addL a0.id a0.series a0.made a0.evs (a1.1, a1.2)).length C_g))
          simpa using h
        have hv8 := o_g.wr1 hwr (o_g.ne_blk2 b6 (by decide))
        try simp only [Act.put, List.setIfInBounds_toArray, List.set_cons_zero, List.set_cons_succ, List.getElem_toArray, List.getElem_cons_succ, List.getElem_cons_zero]
        refine wpAnyH_take (i := 9) (v := ?v28) rfl (by kernel_rfl) (by kernel_rfl) (by kernel_rfl) (fun _ _ _ h => h) (Or.inl ⟨by rfl, ?hy28⟩) hHeld ?rest28
        case hy28 => (intro W hSw; (try dsimp only at hSw); go_simp) <;> with_reducible rfl
        try simp only [Act.put, List.setIfInBounds_toArray, List.set_cons_zero, List.set_cons_succ, List.getElem_toArray, List.getElem_cons_succ, List.getElem_cons_zero]
        refine wpAnyH_done (by kernel_rfl) ?_ _
        refine NoPanic.normal ?_
        exact HT4.out _ _ _ _ _ _ _ _ _ _ _ _ _ _ _ _ _ _ _ _ _ _ _ _ _ _ _ _ _ _ _ _ _ _ _ _ _ _ _ _ _ _ _ _ _ _ _ _ _ _ _ _ _ _ _ _ _ _ _ _ _ _ _ _ _ _ _ _ _ _ _ _ _ _ _ _ _ _ _ _ _ _ _ _ _ _ _ _ _ _ _ _ _ _ _ _ _ _ _ _ hHeld.1 hv8 ho8 hzN
    · go_simp
      refine hK.out _ _ (HK.out _ (Below.alloc hHeld.1 hHeld.1.size _)) (fun hH2 => ?_)
      have hzN : wA1.heap.size ≤ v4_0.heap.size := hHeld.1.size
      clear hK K hHeld
      have hHeld := hH2
      clear hH2
      have p_x0_ := p_x0.alloc (.cells #[.int .i64 0, .int .i64 0, .int .i64 0, .slice none 0 0] 30)
      have b6 : Blk (v4_0.alloc (.cells #[.int .i64 0, .int .i64 0, .int .i64 0, .slice none 0 0] 30)) v4_0.heap.size 30 #[.int .i64 0, .int .i64 0, .int .i64 0, .slice none 0 0] := Blk.new _ _ _
      generalize (v4_0.alloc (.cells #[.int .i64 0, .int .i64 0, .int .i64 0, .slice none 0 0] 30)) = v4_8 at *
      generalize v4_0.heap.size = N6 at *
      try simp only [Act.put, List.setIfInBounds_toArray, List.set_cons_zero, List.set_cons_succ, List.getElem_toArray, List.getElem_cons_succ, List.getElem_cons_zero]
      refine wpAnyH_ready (rs := [2]) (by kernel_rfl) (by simp) ?_
      refine AllReadyH.cons rfl (fun K hK => ?_) AllReadyH.nil
      go_simp
      refine (toEvent_v _ _ _).mono ?_
      rintro e v4_9 ⟨rfl, hd⟩
      go_wp2_with fail
      replace b6 := b6.below hd b6.lt
      have p_x0__ := p_x0_.below hd p_x0_.lt
      refine hK.out _ _ (HK.out _ (blw hHeld.1 hd)) (fun hH2 => ?_)
      clear hK K hHeld
      have hHeld := hH2
      clear hH2
      clear hd
      try simp only [Act.put, List.setIfInBounds_toArray, List.set_cons_zero, List.set_cons_succ, List.getElem_toArray, List.getElem_cons_succ, List.getElem_cons_zero]
      refine wpAnyH_ready (rs := [3]) (by kernel_rfl) (by simp) ?_
      refine AllReadyH.cons rfl (fun K hK => ?_) AllReadyH.nil
      go_simp
      refine (c_impl_AddEvent _ _ _ _ _ a0.evs _ _ _ (p_x0__.ls encEv_len) hn0 (Nat.le_refl _)).mono ?_
      rintro e v4_10 ⟨A_g, C_g, rfl, o_g, hd⟩
      replace o_g := o_g.mono hHeld.1.size
      go_wp2_with fail
      replace b6 := b6.below hd b6.lt
      have p_x0___ := p_x0__.below hd p_x0__.lt
      refine hK.out _ _ (HK.out _ (blw hHeld.1 hd)) (fun hH2 => ?_)
      clear hK K hHeld
      have hHeld := hH2
      clear hH2
      clear hd
      try simp only [Act.put, List.setIfInBounds_toArray, List.set_cons_zero, List.set_cons_succ, List.getElem_toArray, List.getElem_cons_succ, List.getElem_cons_zero]
      refine wpAnyH_take (i := 4) (v := ?v29) rfl (by kernel_rfl) (by kernel_rfl) (by kernel_rfl) (fun _ _ _ h => h) (Or.inl ⟨by rfl, ?hy29⟩) hHeld ?rest29
      case hy29 => (intro W hSw; (try dsimp only at hSw); go_simp) <;> with_reducible rfl
      try simp only [Act.put, List.setIfInBounds_toArray, List.set_cons_zero, List.set_cons_succ, List.getElem_toArray, List.getElem_cons_succ, List.getElem_cons_zero]
      refine wpAnyH_take (i := 5) (v := ?v30) rfl (by kernel_rfl) (by kernel_rfl) (by kernel_rfl) (fun _ _ _ h => h) (Or.inl ⟨by rfl, ?hy30⟩) hHeld ?rest30
      case hy30 => (intro W hSw; (try dsimp only at hSw); go_simp) <;> with_reducible rfl
      try simp only [Act.put, List.setIfInBounds_toArray, List.set_cons_zero, List.set_cons_succ, List.getElem_toArray, List.getElem_cons_succ, List.getElem_cons_zero]
      refine wpAnyH_take (i := 6) (v := ?v31) rfl (by kernel_rfl) (by kernel_rfl) (by kernel_rfl) (fun _ _ _ h => h) (Or.inl ⟨by rfl, ?hy31⟩) hHeld ?rest31
      case hy31 => (intro W hSw; (try dsimp only at hSw); go_simp) <;> with_reducible rfl
      try simp only [Act.put, List.setIfInBounds_toArray, List.set_cons_zero, List.set_cons_succ, List.getElem_toArray, List.getElem_cons_succ, List.getElem_cons_zero]
      refine wpAnyH_ready (rs := [8]) (by kernel_rfl) (by simp) ?_
      refine AllReadyH.cons rfl (fun K hK => ?_) AllReadyH.nil
      have c60 := b6.cell 0
      have c61 := b6.cell 1
      have c62 := b6.cell 2
      have c63 := b6.cell 3
      have f60 := b6.frozen 0
      have f61 := b6.frozen 1
      have f62 := b6.frozen 2
      have f63 := b6.frozen 3
      go_simp
      refine hK.out _ _ (HK.out _ (Below.setCell (Below.setCell (Below.setCell (Below.setCell hHeld.1 (p := ⟨N6, 0, none⟩) hzN (.int .i64 (keepI (addB a0.id a0.series a0.made a0.evs (a1.1, a1.2)) a0.id))) (p := ⟨N6, 1, none⟩) hzN (.int .i64 (keepI (addB a0.id a0.series a0.made a0.evs (a1.1, a1.2)) a0.series))) (p := ⟨N6, 2, none⟩) hzN (.int .i64 (keepI (addB a0.id a0.series a0.made a0.evs (a1.1, a1.2)) a0.made))) (p := ⟨N6, 3, none⟩) hzN (.slice A_g (addL a0.id a0.series a0.made a0.evs (a1.1, a1.2)).length C_g))) (fun hH2 => ?_)
      clear hK K hHeld
      have hHeld := hH2
      clear hH2
      have hwr : Wr (fun q => q = N6) v4_10 ((((v4_10.setCell ⟨N6, 0, none⟩ (.int .i64 (keepI (addB a0.id a0.series a0.made a0.evs (a1.1, a1.2)) a0.id))).setCell ⟨N6, 1, none⟩ (.int .i64 (keepI (addB a0.id a0.series a0.made a0.evs (a1.1, a1.2)) a0.series))).setCell ⟨N6, 2, none⟩ (.int .i64 (keepI (addB a0.id a0.series a0.made a0.evs (a1.1, a1.2)) a0.made))).setCell ⟨N6, 3, none⟩ (.slice A_g (addL a0.id a0.series a0.made a0.evs (a1.1, a1.2)).length C_g)) := (Wr.setCell (p := ⟨N6, 3, none⟩) (Wr.setCell (p := ⟨N6, 2, none⟩) (Wr.setCell (p := ⟨N6, 1, none⟩) (Wr.setCell (p := ⟨N6, 0, none⟩) (Wr.refl (fun q => q = N6) v4_10) (.inl rfl) (.int .i64 (keepI (addB a0.id a0.series a0.made a0.evs (a1.1, a1.2)) a0.id))) (.inl rfl) (.int .i64 (keepI (addB a0.id a0.series a0.made a0.evs (a1.1, a1.2)) a0.series))) (.inl rfl) (.int .i64 (keepI (addB a0.id a0.series a0.made a0.evs (a1.1, a1.2)) a0.made))) (.inl rfl) (.slice A_g (addL a0.id a0.series a0.made a0.evs (a1.1, a1.2)).length C_g))
      have ho8 : Blk ((((v4_10.setCell ⟨N6, 0, none⟩ (.int .i64 (keepI (addB a0.id a0.series a0.made a0.evs (a1.1, a1.2)) a0.id))).setCell ⟨N6, 1, none⟩ (.int .i64 (keepI (addB a0.id a0.series a0.made a0.evs (a1.1, a1.2)) a0.series))).setCell ⟨N6, 2, none⟩ (.int .i64 (keepI (addB a0.id a0.series a0.made a0.evs (a1.1, a1.2)) a0.made))).setCell ⟨N6, 3, none⟩ (.slice A_g (addL a0.id a0.series a0.made a0.evs (a1.1, a1.2)).length C_g)) N6 30 #[.int .i64 (keepI (addB a0.id a0.series a0.made a0.evs (a1.1, a1.2)) a0.id), .int .i64 (keepI (addB a0.id a0.series a0.made a0.evs (a1.1, a1.2)) a0.series), .int .i64 (keepI (addB a0.id a0.series a0.made a0.evs (a1.1, a1.2)) a0.made), .slice A_g (addL a0.id a0.series a0.made a0.evs (a1.1, a1.2)).length C_g] := by
        have h := (Blk.set_ (Blk.set_ (Blk.set_ (Blk.set_ b6 0 (.int .i64 (keepI (addB a0.id a0.series a0.made a0.evs (a1.1, a1.2)) a0.id))) 1 (.int .i64 (keepI (addB a0.id a0.series a0.made a0.evs (a1.1, a1.2)) a0.series))) 2 (.int .i64 (keepI (addB a0.id a0.series a0.made a0.evs (a1.1, a1.2)) a0.made))) 3 (.slice A_g (addL a0.id a0.series a0.made a0.evs (a1.1, a1.2)).length C_g))
        simpa using h
      have hv8 := o_g.wr1 hwr (o_g.ne_blk2 b6 (by decide))
      try simp only [Act.put, List.setIfInBounds_toArray, List.set_cons_zero, List.set_cons_succ, List.getElem_toArray, List.getElem_cons_succ, List.getElem_cons_zero]
      refine wpAnyH_take (i := 9) (v := ?v32) rfl (by kernel_rfl) (by kernel_rfl) (by kernel_rfl) (fun _ _ _ h => h) (Or.inl ⟨by rfl, ?hy32⟩) hHeld ?rest32
      case hy32 => (intro W hSw; (try dsimp only at hSw); go_simp) <;> with_reducible rfl
      try simp only [Act.put, List.setIfInBounds_toArray, List.set_cons_zero, List.set_cons_succ, List.getElem_toArray, List.getElem_cons_succ, List.getElem_cons_zero]
      refine wpAnyH_done (by kernel_rfl) ?_ _
      refine NoPanic.normal ?_
      exact HT4.out _ _ _ _ _ _ _ _ _ _ _ _ _ _ _ _ _ _ _ _ _ _ _ _ _ _ _ _ _ _ _ _ _ _ _ _ _ _ _ _ _ _ _ _ _ _ _ _ _ _ _ _ _ _ _ _ _ _ _ _ _ _ _ _ _ _ _ _ _ _ _ _ _ _ _ _ _ _ _ _ _ _ _ _ _ _ _ _ _ _ _ _ _ _ _ _ _ _ _ _ hHeld.1 hv8 ho8 hzN
  have HK : Hid (∀ W, Below w1.heap.size w1 W → Below w1.heap.size w1 W ∧ W.cell? ⟨w.heap.size, 0, none⟩ = some (.int .i64 a0.id) ∧ W.cell? ⟨w.heap.size, 1, none⟩ = some (.int .i64 a0.series) ∧ W.cell? ⟨w.heap.size, 2, none⟩ = some (.int .i64 a0.made) ∧ W.cell? ⟨w.heap.size, 3, none⟩ = some (.slice a0.A a0.evs.length a0.c) ∧ W.cell? ⟨w.heap.size + 1, 0, none⟩ = some (.int .i64 a1.1) ∧ W.cell? ⟨w.heap.size + 1, 1, none⟩ = some (.int .i64 a1.2)) := fun W hb => ⟨hb, (hb.cell (p := ⟨_, _, _⟩) bl0).trans bx0_0, (hb.cell (p := ⟨_, _, _⟩) bl0).trans bx0_1, (hb.cell (p := ⟨_, _, _⟩) bl0).trans bx0_2, (hb.cell (p := ⟨_, _, _⟩) bl0).trans bx0_3, (hb.cell (p := ⟨_, _, _⟩) bl1).trans bx1_0, (hb.cell (p := ⟨_, _, _⟩) bl1).trans bx1_1⟩
  have HLr0 : Hid (∀ W, Below w1.heap.size w1 W → Ls W W.heap.size encEv 2 a0.A a0.evs) := fun W hb => ((hl0.below (blw h1 hb)).more (blw h1 hb).size)
  refine wp_region_noPanic ?_
  refine wp_region_held_drew (S := fun W => Below w1.heap.size w1 W ∧ W.cell? ⟨w.heap.size, 0, none⟩ = some (.int .i64 a0.id) ∧ W.cell? ⟨w.heap.size, 1, none⟩ = some (.int .i64 a0.series) ∧ W.cell? ⟨w.heap.size, 2, none⟩ = some (.int .i64 a0.made) ∧ W.cell? ⟨w.heap.size, 3, none⟩ = some (.slice a0.A a0.evs.length a0.c) ∧ W.cell? ⟨w.heap.size + 1, 0, none⟩ = some (.int .i64 a1.1) ∧ W.cell? ⟨w.heap.size + 1, 1, none⟩ = some (.int .i64 a1.2)) (by kernel_rfl) (HK.out _ (Below.refl _ _).drew) (fun hHeld => ?_)
  generalize w1.drew = v2_0 at *
  refine wpAnyH_take (i := 0) (v := ?v1) rfl (by kernel_rfl) (by kernel_rfl) (by kernel_rfl) (fun _ _ _ h => h) (Or.inl ⟨by rfl, ?hy1⟩) hHeld ?rest1
  case hy1 => (intro W hSw; (try dsimp only at hSw); go_simp) <;> with_reducible rfl
  try simp only [Act.put, List.setIfInBounds_toArray, List.set_cons_zero, List.set_cons_succ, List.getElem_toArray, List.getElem_cons_succ, List.getElem_cons_zero]
  refine wpAnyH_take (i := 2) (v := ?v2) rfl (by kernel_rfl) (by kernel_rfl) (by kernel_rfl) (fun _ _ _ h => h) (Or.inl ⟨by rfl, ?hy2⟩) hHeld ?rest2
  case hy2 => (intro W hSw; (try dsimp only at hSw); go_simp) <;> with_reducible rfl
  try simp only [Act.put, List.setIfInBounds_toArray, List.set_cons_zero, List.set_cons_succ, List.getElem_toArray, List.getElem_cons_succ, List.getElem_cons_zero]
  refine wpAnyH_ready (rs := [1, 8]) (by kernel_rfl) (by simp) ?_
  refine AllReadyH.cons rfl (fun K hK => ?_) (AllReadyH.cons rfl (fun K hK => ?_) AllReadyH.nil)
  · go_simp
    refine (toRecord_any _ _ _ _ _ a0.evs _ (HLr0.out _ hHeld.1) hn0).mono ?_
    rintro e v2_1 ⟨g_y, gl_y, rfl, o_y, hd⟩
    go_wp2_with fail
    refine hK.out _ _ (HK.out _ (blw hHeld.1 hd)) (fun hH2 => ?_)
    clear hK K hHeld
    have hHeld := hH2
    clear hH2
    clear hd
    try simp only [Act.put, List.setIfInBounds_toArray, List.set_cons_zero, List.set_cons_succ, List.getElem_toArray, List.getElem_cons_succ, List.getElem_cons_zero]
    refine wpAnyH_ready (rs := [3, 8]) (by kernel_rfl) (by simp) ?_
    refine AllReadyH.cons rfl (fun K hK => ?_) (AllReadyH.cons rfl (fun K hK => ?_) AllReadyH.nil)
    · go_simp
      refine (toEvent_v _ _ _).mono ?_
      rintro e v2_2 ⟨rfl, hd⟩
      go_wp2_with fail
      have o_y_ := o_y.below hd o_y.lt
      refine hK.out _ _ (HK.out _ (blw hHeld.1 hd)) (fun hH2 => ?_)
      clear hK K hHeld
      have hHeld := hH2
      clear hH2
      clear hd
      try simp only [Act.put, List.setIfInBounds_toArray, List.set_cons_zero, List.set_cons_succ, List.getElem_toArray, List.getElem_cons_succ, List.getElem_cons_zero]
      refine wpAnyH_ready (rs := [4, 8]) (by kernel_rfl) (by simp) ?_
      refine AllReadyH.cons rfl (fun K hK => ?_) (AllReadyH.cons rfl (fun K hK => ?_) AllReadyH.nil)
      · go_simp
        refine (c_spec_AddEvent _ _ _ _ _ a0.evs _ _ _ (o_y_.ls encEv_len) hn0 (Nat.le_refl _)).mono ?_
        rintro e v2_3 ⟨A_w, C_w, rfl, o_w, hd⟩
        replace o_w := o_w.mono hHeld.1.size
        go_wp2_with fail
        have o_y__ := o_y_.below hd o_y_.lt
        refine hK.out _ _ (HK.out _ (blw hHeld.1 hd)) (fun hH2 => ?_)
        clear hK K hHeld
        have hHeld := hH2
        clear hH2
        clear hd
        try simp only [Act.put, List.setIfInBounds_toArray, List.set_cons_zero, List.set_cons_succ, List.getElem_toArray, List.getElem_cons_succ, List.getElem_cons_zero]
        refine wpAnyH_take (i := 5) (v := ?v3) rfl (by kernel_rfl) (by kernel_rfl) (by kernel_rfl) (fun _ _ _ h => h) (Or.inl ⟨by rfl, ?hy3⟩) hHeld ?rest3
        case hy3 => (intro W hSw; (try dsimp only at hSw); go_simp) <;> with_reducible rfl
        try simp only [Act.put, List.setIfInBounds_toArray, List.set_cons_zero, List.set_cons_succ, List.getElem_toArray, List.getElem_cons_succ, List.getElem_cons_zero]
        refine wpAnyH_take (i := 6) (v := ?v4) rfl (by kernel_rfl) (by kernel_rfl) (by kernel_rfl) (fun _ _ _ h => h) (Or.inl ⟨by rfl, ?hy4⟩) hHeld ?rest4
        case hy4 => (intro W hSw; (try dsimp only at hSw); go_simp) <;> with_reducible rfl
        try simp only [Act.put, List.setIfInBounds_toArray, List.set_cons_zero, List.set_cons_succ, List.getElem_toArray, List.getElem_cons_succ, List.getElem_cons_zero]
        refine wpAnyH_take (i := 7) (v := ?v5) rfl (by kernel_rfl) (by kernel_rfl) (by kernel_rfl) (fun _ _ _ h => h) (Or.inl ⟨by rfl, ?hy5⟩) hHeld ?rest5
        case hy5 => (intro W hSw; (try dsimp only at hSw); go_simp) <;> with_reducible rfl
        try simp only [Act.put, List.setIfInBounds_toArray, List.set_cons_zero, List.set_cons_succ, List.getElem_toArray, List.getElem_cons_succ, List.getElem_cons_zero]
        refine wpAnyH_ready (rs := [8]) (by kernel_rfl) (by simp) ?_
        refine AllReadyH.cons rfl (fun K hK => ?_) AllReadyH.nil
        go_simp
        refine hK.out _ _ (HK.out _ (Below.alloc hHeld.1 hHeld.1.size _)) (fun hH2 => ?_)
        have hzN : w1.heap.size ≤ v2_3.heap.size := hHeld.1.size
        clear hK K hHeld
        have hHeld := hH2
        clear hH2
        have o_y___ := o_y__.alloc (.cells #[.int .i64 0, .int .i64 0, .int .i64 0, .slice none 0 0] 30)
        replace o_w := o_w.alloc (.cells #[.int .i64 0, .int .i64 0, .int .i64 0, .slice none 0 0] 30)
        have b6 : Blk (v2_3.alloc (.cells #[.int .i64 0, .int .i64 0, .int .i64 0, .slice none 0 0] 30)) v2_3.heap.size 30 #[.int .i64 0, .int .i64 0, .int .i64 0, .slice none 0 0] := Blk.new _ _ _
        generalize (v2_3.alloc (.cells #[.int .i64 0, .int .i64 0, .int .i64 0, .slice none 0 0] 30)) = v2_4 at *
        generalize v2_3.heap.size = N6 at *
        try simp only [Act.put, List.setIfInBounds_toArray, List.set_cons_zero, List.set_cons_succ, List.getElem_toArray, List.getElem_cons_succ, List.getElem_cons_zero]
        refine wpAnyH_ready (rs := [9]) (by kernel_rfl) (by simp) ?_
        refine AllReadyH.cons rfl (fun K hK => ?_) AllReadyH.nil
        have c60 := b6.cell 0
        have c61 := b6.cell 1
        have c62 := b6.cell 2
        have c63 := b6.cell 3
        have f60 := b6.frozen 0
        have f61 := b6.frozen 1
        have f62 := b6.frozen 2
        have f63 := b6.frozen 3
        go_simp
        refine hK.out _ _ (HK.out _ (Below.setCell (Below.setCell (Below.setCell (Below.setCell hHeld.1 (p := ⟨N6, 0, none⟩) hzN (.int .i64 (keepI (addB a0.id a0.series a0.made a0.evs (a1.1, a1.2)) a0.id))) (p := ⟨N6, 1, none⟩) hzN (.int .i64 (keepI (addB a0.id a0.series a0.made a0.evs (a1.1, a1.2)) a0.series))) (p := ⟨N6, 2, none⟩) hzN (.int .i64 (keepI (addB a0.id a0.series a0.made a0.evs (a1.1, a1.2)) a0.made))) (p := ⟨N6, 3, none⟩) hzN (.slice A_w (addL a0.id a0.series a0.made a0.evs (a1.1, a1.2)).length C_w))) (fun hH2 => ?_)
        clear hK K hHeld
        have hHeld := hH2
        clear hH2
        have hwr : Wr (fun q => q = N6) v2_4 ((((v2_4.setCell ⟨N6, 0, none⟩ (.int .i64 (keepI (addB a0.id a0.series a0.made a0.evs (a1.1, a1.2)) a0.id))).setCell ⟨N6, 1, none⟩ (.int .i64 (keepI (addB a0.id a0.series a0.made a0.evs (a1.1, a1.2)) a0.series))).setCell ⟨N6, 2, none⟩ (.int .i64 (keepI (addB a0.id a0.series a0.made a0.evs (a1.1, a1.2)) a0.made))).setCell ⟨N6, 3, none⟩ (.slice A_w (addL a0.id a0.series a0.made a0.evs (a1.1, a1.2)).length C_w)) := (Wr.setCell (p := ⟨N6, 3, none⟩) (Wr.setCell (p := ⟨N6, 2, none⟩) (Wr.setCell (p := ⟨N6, 1, none⟩) (Wr.setCell (p := ⟨N6, 0, none⟩) (Wr.refl (fun q => q = N6) v2_4) (.inl rfl) (.int .i64 (keepI (addB a0.id a0.series a0.made a0.evs (a1.1, a1.2)) a0.id))) (.inl rfl) (.int .i64 (keepI (addB a0.id a0.series a0.made a0.evs (a1.1, a1.2)) a0.series))) (.inl rfl) (.int .i64 (keepI (addB a0.id a0.series a0.made a0.evs (a1.1, a1.2)) a0.made))) (.inl rfl) (.slice A_w (addL a0.id a0.series a0.made a0.evs (a1.1, a1.2)).length C_w))
        have ho8 : Blk ((((v2_4.setCell ⟨N6, 0, none⟩ (.int .i64 (keepI (addB a0.id a0.series a0.made a0.evs (a1.1, a1.2)) a0.id))).setCell ⟨N6, 1, none⟩ (.int .i64 (keepI (addB a0.id a0.series a0.made a0.evs (a1.1, a1.2)) a0.series))).setCell ⟨N6, 2, none⟩ (.int .i64 (keepI (addB a0.id a0.series a0.made a0.evs (a1.1, a1.2)) a0.made))).setCell ⟨N6, 3, none⟩ (.slice A_w (addL a0.id a0.series a0.made a0.evs (a1.1, a1.2)).length C_w)) N6 30 #[.int .i64 (keepI (addB a0.id a0.series a0.made a0.evs (a1.1, a1.2)) a0.id), .int .i64 (keepI (addB a0.id a0.series a0.made a0.evs (a1.1, a1.2)) a0.series), .int .i64 (keepI (addB a0.id a0.series a0.made a0.evs (a1.1, a1.2)) a0.made), .slice A_w (addL a0.id a0.series a0.made a0.evs (a1.1, a1.2)).length C_w] := by
          have h := (Blk.set_ (Blk.set_ (Blk.set_ (Blk.set_ b6 0 (.int .i64 (keepI (addB a0.id a0.series a0.made a0.evs (a1.1, a1.2)) a0.id))) 1 (.int .i64 (keepI (addB a0.id a0.series a0.made a0.evs (a1.1, a1.2)) a0.series))) 2 (.int .i64 (keepI (addB a0.id a0.series a0.made a0.evs (a1.1, a1.2)) a0.made))) 3 (.slice A_w (addL a0.id a0.series a0.made a0.evs (a1.1, a1.2)).length C_w))
          simpa using h
        have hv8 := o_w.wr1 hwr (o_w.ne_blk2 b6 (by decide))
        try simp only [Act.put, List.setIfInBounds_toArray, List.set_cons_zero, List.set_cons_succ, List.getElem_toArray, List.getElem_cons_succ, List.getElem_cons_zero]
        refine wpAnyH_take (i := 10) (v := ?v6) rfl (by kernel_rfl) (by kernel_rfl) (by kernel_rfl) (fun _ _ _ h => h) (Or.inl ⟨by rfl, ?hy6⟩) hHeld ?rest6
        case hy6 => (intro W hSw; (try dsimp only at hSw); go_simp) <;> with_reducible rfl
        try simp only [Act.put, List.setIfInBounds_toArray, List.set_cons_zero, List.set_cons_succ, List.getElem_toArray, List.getElem_cons_succ, List.getElem_cons_zero]
        refine wpAnyH_done (by kernel_rfl) ?_ _
        refine NoPanic.normal ?_
        exact HT2.out _ _ _ _ _ _ _ _ _ _ _ _ _ _ _ _ _ _ _ _ _ _ _ _ _ _ _ _ _ _ _ _ _ _ _ _ _ _ _ _ _ _ _ _ _ _ _ _ _ _ _ _ _ _ _ _ _ _ _ _ _ _ _ _ _ _ _ _ _ _ _ _ _ _ _ _ _ _ _ _ _ _ _ _ _ _ _ _ _ _ _ _ _ _ _ _ _ _ _ _ _ _ _ hHeld.1 hv8 ho8 hzN
      · go_simp
        refine hK.out _ _ (HK.out _ (Below.alloc hHeld.1 hHeld.1.size _)) (fun hH2 => ?_)
        have hzN : w1.heap.size ≤ v2_2.heap.size := hHeld.1.size
        clear hK K hHeld
        have hHeld := hH2
        clear hH2
        have o_y__ := o_y_.alloc (.cells #[.int .i64 0, .int .i64 0, .int .i64 0, .slice none 0 0] 30)
        have b6 : Blk (v2_2.alloc (.cells #[.int .i64 0, .int .i64 0, .int .i64 0, .slice none 0 0] 30)) v2_2.heap.size 30 #[.int .i64 0, .int .i64 0, .int .i64 0, .slice none 0 0] := Blk.new _ _ _
        generalize (v2_2.alloc (.cells #[.int .i64 0, .int .i64 0, .int .i64 0, .slice none 0 0] 30)) = v2_6 at *
        generalize v2_2.heap.size = N6 at *
        try simp only [Act.put, List.setIfInBounds_toArray, List.set_cons_zero, List.set_cons_succ, List.getElem_toArray, List.getElem_cons_succ, List.getElem_cons_zero]
        refine wpAnyH_ready (rs := [4]) (by kernel_rfl) (by simp) ?_
        refine AllReadyH.cons rfl (fun K hK => ?_) AllReadyH.nil
        go_simp
        refine (c_spec_AddEvent _ _ _ _ _ a0.evs _ _ _ (o_y__.ls encEv_len) hn0 (Nat.le_refl _)).mono ?_
        rintro e v2_7 ⟨A_w, C_w, rfl, o_w, hd⟩
        replace o_w := o_w.mono hHeld.1.size
        go_wp2_with fail
        replace b6 := b6.below hd b6.lt
        have o_y___ := o_y__.below hd o_y__.lt
        refine hK.out _ _ (HK.out _ (blw hHeld.1 hd)) (fun hH2 => ?_)
        clear hK K hHeld
        have hHeld := hH2
        clear hH2
        clear hd
        try simp only [Act.put, List.setIfInBounds_toArray, List.set_cons_zero, List.set_cons_succ, List.getElem_toArray, List.getElem_cons_succ, List.getElem_cons_zero]
        refine wpAnyH_take (i := 5) (v := ?v7) rfl (by kernel_rfl) (by kernel_rfl) (by kernel_rfl) (fun _ _ _ h => h) (Or.inl ⟨by rfl, ?hy7⟩) hHeld ?rest7
        case hy7 => (intro W hSw; (try dsimp only at hSw); go_simp) <;> with_reducible rfl
        try simp only [Act.put, List.setIfInBounds_toArray, List.set_cons_zero, List.set_cons_succ, List.getElem_toArray, List.getElem_cons_succ, List.getElem_cons_zero]
        refine wpAnyH_take (i := 6) (v := ?v8) rfl (by kernel_rfl) (by kernel_rfl) (by kernel_rfl) (fun _ _ _ h => h) (Or.inl ⟨by rfl, ?hy8⟩) hHeld ?rest8
        case hy8 => (intro W hSw; (try dsimp only at hSw); go_simp) <;> with_reducible rfl
        try simp only [Act.put, List.setIfInBounds_toArray, List.set_cons_zero, List.set_cons_succ, List.getElem_toArray, List.getElem_cons_succ, List.getElem_cons_zero]
        refine wpAnyH_take (i := 7) (v := ?v9) rfl (by kernel_rfl) (by kernel_rfl) (by kernel_rfl) (fun _ _ _ h => h) (Or.inl ⟨by rfl, ?hy9⟩) hHeld ?rest9
        case hy9 => (intro W hSw; (try dsimp only at hSw); go_simp) <;> with_reducible rfl
        try simp only [Act.put, List.setIfInBounds_toArray, List.set_cons_zero, List.set_cons_succ, List.getElem_toArray, List.getElem_cons_succ, List.getElem_cons_zero]
        refine wpAnyH_ready (rs := [9]) (by kernel_rfl) (by simp) ?_
        refine AllReadyH.cons rfl (fun K hK => ?_) AllReadyH.nil
        have c60 := b6.cell 0
        have c61 := b6.cell 1
        have c62 := b6.cell 2
        have c63 := b6.cell 3
        have f60 := b6.frozen 0
        have f61 := b6.frozen 1
        have f62 := b6.frozen 2
        have f63 := b6.frozen 3
        go_simp
        refine hK.out _ _ (HK.out _ (Below.setCell (Below.setCell (Below.setCell (Below.setCell hHeld.1 (p := ⟨N6, 0, none⟩) hzN (.int .i64 (keepI (addB a0.id a0.series a0.made a0.evs (a1.1, a1.2)) a0.id))) (p := ⟨N6, 1, none⟩) hzN (.int .i64 (keepI (addB a0.id a0.series a0.made a0.evs (a1.1, a1.2)) a0.series))) (p := ⟨N6, 2, none⟩) hzN (.int .i64 (keepI (addB a0.id a0.series a0.made a0.evs (a1.1, a1.2)) a0.made))) (p := ⟨N6, 3, none⟩) hzN (.slice A_w (addL a0.id a0.series a0.made a0.evs (a1.1, a1.2)).length C_w))) (fun hH2 => ?_)
        clear hK K hHeld
        have hHeld := hH2
        clear hH2
        have hwr : Wr (fun q => q = N6) v2_7 ((((v2_7.setCell ⟨N6, 0, none⟩ (.int .i64 (keepI (addB a0.id a0.series a0.made a0.evs (a1.1, a1.2)) a0.id))).setCell ⟨N6, 1, none⟩ (.int .i64 (keepI (addB a0.id a0.series a0.made a0.evs (a1.1, a1.2)) a0.series))).setCell ⟨N6, 2, none⟩ (.int .i64 (keepI (addB a0.id a0.series a0.made a0.evs (a1.1, a1.2)) a0.made))).setCell ⟨N6, 3, none⟩ (.slice A_w (addL a0.id a0.series a0.made a0.evs (a1.1, a1.2)).length C_w)) := (Wr.setCell (p := ⟨N6, 3, none⟩) (Wr.setCell (p := ⟨N6, 2, none⟩) (Wr.setCell (p := ⟨N6, 1, none⟩) (Wr.setCell (p := ⟨N6, 0, none⟩) (Wr.refl (fun q => q = N6) v2_7) (.inl rfl) (.int .i64 (keepI (addB a0.id a0.series a0.made a0.evs (a1.1, a1.2)) a0.id))) (.inl rfl) (.int .i64 (keepI (addB a0.id a0.series a0.made a0.evs (a1.1, a1.2)) a0.series))) (.inl rfl) (.int .i64 (keepI (addB a0.id a0.series a0.made a0.evs (a1.1, a1.2)) a0.made))) (.inl rfl) (.slice A_w (addL a0.id a0.series a0.made a0.evs (a1.1, a1.2)).length C_w))
        have ho8 : Blk ((((v2_7.setCell ⟨N6, 0, none⟩ (.int .i64 (keepI (addB a0.id a0.series a0.made a0.evs (a1.1, a1.2)) a0.id))).setCell ⟨N6, 1, none⟩ (.int .i64 (keepI (addB a0.id a0.series a0.made a0.evs (a1.1, a1.2)) a0.series))).setCell ⟨N6, 2, none⟩ (.int .i64 (keepI (addB a0.id a0.series a0.made a0.evs (a1.1, a1.2)) a0.made))).setCell ⟨N6, 3, none⟩ (.slice A_w (addL a0.id a0.series a0.made a0.evs (a1.1, a1.2)).length C_w)) N6 30 #[.int .i64 (keepI (addB a0.id a0.series a0.made a0.evs (a1.1, a1.2)) a0.id), .int .i64 (keepI (addB a0.id a0.series a0.made a0.evs (a1.1, a1.2)) a0.series), .int .i64 (keepI (addB a0.id a0.series a0.made a0.evs (a1.1, a1.2)) a0.made), .slice A_w (addL a0.id a0.series a0.made a0.evs (a1.1, a1.2)).length C_w] := by
          have h := (Blk.set_ (Blk.set_ (Blk.set_ (Blk.set_ b6 0 (.int .i64 (keepI (addB a0.id a0.series a0.made a0.evs (a1.1, a1.2)) a0.id))) 1 (.int .i64 (keepI (addB a0.id a0.series a0.made a0.evs (a1.1, a1.2)) a0.series))) 2 (.int .i64 (keepI (addB a0.id a0.series a0.made a0.evs (a1.1, a1.2)) a0.made))) 3 (.slice A_w (addL a0.id a0.series a0.made a0.evs (a1.1, a1.2)).length C_w))
          simpa using h
        have hv8 := o_w.wr1 hwr (o_w.ne_blk2 b6 (by decide))
        try simp only [Act.put, List.setIfInBounds_toArray, List.set_cons_zero, List.set_cons_succ, List.getElem_toArray, List.getElem_cons_succ, List.getElem_cons_zero]
        refine wpAnyH_take (i := 10) (v := ?v10) rfl (by kernel_rfl) (by kernel_rfl) (by kernel_rfl) (fun _ _ _ h => h) (Or.inl ⟨by rfl, ?hy10⟩) hHeld ?rest10
        case hy10 => (intro W hSw; (try dsimp only at hSw); go_simp) <;> with_reducible rfl
        try simp only [Act.put, List.setIfInBounds_toArray, List.set_cons_zero, List.set_cons_succ, List.getElem_toArray, List.getElem_cons_succ, List.getElem_cons_zero]
        refine wpAnyH_done (by kernel_rfl) ?_ _
        refine NoPanic.normal ?_
        exact HT2.out _ _ _ _ _ _ _ _ _ _ _ _ _ _ _ _ _ _ _ _ _ _ _ _ _ _ _ _ _ _ _ _ _ _ _ _ _ _ _ _ _ _ _ _ _ _ _ _ _ _ _ _ _ _ _ _ _ _ _ _ _ _ _ _ _ _ _ _ _ _ _ _ _ _ _ _ _ _ _ _ _ _ _ _ _ _ _ _ _ _ _ _ _ _ _ _ _ _ _ _ _ _ _ hHeld.1 hv8 ho8 hzN
    · go_simp
      refine hK.out _ _ (HK.out _ (Below.alloc hHeld.1 hHeld.1.size _)) (fun hH2 => ?_)
      have hzN : w1.heap.size ≤ v2_1.heap.size := hHeld.1.size
      clear hK K hHeld
      have hHeld := hH2
      clear hH2
      have o_y_ := o_y.alloc (.cells #[.int .i64 0, .int .i64 0, .int .i64 0, .slice none 0 0] 30)
      have b6 : Blk (v2_1.alloc (.cells #[.int .i64 0, .int .i64 0, .int .i64 0, .slice none 0 0] 30)) v2_1.heap.size 30 #[.int .i64 0, .int .i64 0, .int .i64 0, .slice none 0 0] := Blk.new _ _ _
      generalize (v2_1.alloc (.cells #[.int .i64 0, .int .i64 0, .int .i64 0, .slice none 0 0] 30)) = v2_9 at *
      generalize v2_1.heap.size = N6 at *
      try simp only [Act.put, List.setIfInBounds_toArray, List.set_cons_zero, List.set_cons_succ, List.getElem_toArray, List.getElem_cons_succ, List.getElem_cons_zero]
      refine wpAnyH_ready (rs := [3]) (by kernel_rfl) (by simp) ?_
      refine AllReadyH.cons rfl (fun K hK => ?_) AllReadyH.nil
      go_simp
      refine (toEvent_v _ _ _).mono ?_
      rintro e v2_10 ⟨rfl, hd⟩
      go_wp2_with fail
      replace b6 := b6.below hd b6.lt
      have o_y__ := o_y_.below hd o_y_.lt
      refine hK.out _ _ (HK.out _ (blw hHeld.1 hd)) (fun hH2 => ?_)
      clear hK K hHeld
      have hHeld := hH2
      clear hH2
      clear hd
      try simp only [Act.put, List.setIfInBounds_toArray, List.set_cons_zero, List.set_cons_succ, List.getElem_toArray, List.getElem_cons_succ, List.getElem_cons_zero]
      refine wpAnyH_ready (rs := [4]) (by kernel_rfl) (by simp) ?_
      refine AllReadyH.cons rfl (fun K hK => ?_) AllReadyH.nil
      go_simp
      refine (c_spec_AddEvent _ _ _ _ _ a0.evs _ _ _ (o_y__.ls encEv_len) hn0 (Nat.le_refl _)).mono ?_
      rintro e v2_11 ⟨A_w, C_w, rfl, o_w, hd⟩
      replace o_w := o_w.mono hHeld.1.size
      go_wp2_with fail
      replace b6 := b6.below hd b6.lt
      have o_y___ := o_y__.below hd o_y__.lt
      refine hK.out _ _ (HK.out _ (blw hHeld.1 hd)) (fun hH2 => ?_)
      clear hK K hHeld
      have hHeld := hH2
      clear hH2
      clear hd
      try simp only [Act.put, List.setIfInBounds_toArray, List.set_cons_zero, List.set_cons_succ, List.getElem_toArray, List.getElem_cons_succ, List.getElem_cons_zero]
      refine wpAnyH_take (i := 5) (v := ?v11) rfl (by kernel_rfl) (by kernel_rfl) (by kernel_rfl) (fun _ _ _ h => h) (Or.inl ⟨by rfl, ?hy11⟩) hHeld ?rest11
      case hy11 => (intro W hSw; (try dsimp only at hSw); go_simp) <;> with_reducible rfl
      try simp only [Act.put, List.setIfInBounds_toArray, List.set_cons_zero, List.set_cons_succ, List.getElem_toArray, List.getElem_cons_succ, List.getElem_cons_zero]
      refine wpAnyH_take (i := 6) (v := ?v12) rfl (by kernel_rfl) (by kernel_rfl) (by kernel_rfl) (fun _ _ _ h => h) (Or.inl ⟨by rfl, ?hy12⟩) hHeld ?rest12
      case hy12 => (intro W hSw; (try dsimp only at hSw); go_simp) <;> with_reducible rfl
      try simp only [Act.put, List.setIfInBounds_toArray, List.set_cons_zero, List.set_cons_succ, List.getElem_toArray, List.getElem_cons_succ, List.getElem_cons_zero]
      refine wpAnyH_take (i := 7) (v := ?v13) rfl (by kernel_rfl) (by kernel_rfl) (by kernel_rfl) (fun _ _ _ h => h) (Or.inl ⟨by rfl, ?hy13⟩) hHeld ?rest13
      case hy13 => (intro W hSw; (try dsimp only at hSw); go_simp) <;> with_reducible rfl
      try simp only [Act.put, List.setIfInBounds_toArray, List.set_cons_zero, List.set_cons_succ, List.getElem_toArray, List.getElem_cons_succ, List.getElem_cons_zero]
      refine wpAnyH_ready (rs := [9]) (by kernel_rfl) (by simp) ?_
      refine AllReadyH.cons rfl (fun K hK => ?_) AllReadyH.nil
      have c60 := b6.cell 0
      have c61 := b6.cell 1
      have c62 := b6.cell 2
      have c63 := b6.cell 3
      have f60 := b6.frozen 0
      have f61 := b6.frozen 1
      have f62 := b6.frozen 2
      have f63 := b6.frozen 3
      go_simp
      refine hK.out _ _ (HK.out _ (Below.setCell (Below.setCell (Below.setCell (Below.setCell hHeld.1 (p := ⟨N6, 0, none⟩) hzN (.int .i64 (keepI (addB a0.id a0.series a0.made a0.evs (a1.1, a1.2)) a0.id))) (p := ⟨N6, 1, none⟩) hzN (.int .i64 (keepI (addB a0.id a0.series a0.made a0.evs (a1.1, a1.2)) a0.series))) (p := ⟨N6, 2, none⟩) hzN (.int .i64 (keepI (addB a0.id a0.series a0.made a0.evs (a1.1, a1.2)) a0.made))) (p := ⟨N6, 3, none⟩) hzN (.slice A_w (addL a0.id a0.series a0.made a0.evs (a1.1, a1.2)).length C_w))) (fun hH2 => ?_)
      clear hK K hHeld
      have hHeld := hH2
      clear hH2
      have hwr : Wr (fun q => q = N6) v2_11 ((((v2_11.setCell ⟨N6, 0, none⟩ (.int .i64 (keepI (addB a0.id a0.series a0.made a0.evs (a1.1, a1.2)) a0.id))).setCell ⟨N6, 1, none⟩ (.int .i64 (keepI (addB a0.id a0.series a0.made a0.evs (a1.1, a1.2)) a0.series))).setCell ⟨N6, 2, none⟩ (.int .i64 (keepI (addB a0.id a0.series a0.made a0.evs (a1.1, a1.2)) a0.made))).setCell ⟨N6, 3, none⟩ (.slice A_w (addL a0.id a0.series a0.made a0.evs (a1.1, a1.2)).length C_w)) := (Wr.setCell (p := ⟨N6, 3, none⟩) (Wr.setCell (p := ⟨N6, 2, none⟩) (Wr.setCell (p := ⟨N6, 1, none⟩) (Wr.setCell (p := ⟨N6, 0, none⟩) (Wr.refl (fun q => q = N6) v2_11) (.inl rfl) (.int .i64 (keepI (addB a0.id a0.series a0.made a0.evs (a1.1, a1.2)) a0.id))) (.inl rfl) (.int .i64 (keepI (addB a0.id a0.series a0.made a0.evs (a1.1, a1.2)) a0.series))) (.inl rfl) (.int .i64 (keepI (addB a0.id a0.series a0.made a0.evs (a1.1, a1.2)) a0.made))) (.inl rfl) (.slice A_w (addL a0.id a0.series a0.made a0.evs (a1.1, a1.2)).length C_w))
      have ho8 : Blk ((((v2_11.setCell ⟨N6, 0, none⟩ (.int .i64 (keepI (addB a0.id a0.series a0.made a0.evs (a1.1, a1.2)) a0.id))).setCell ⟨N6, 1, none⟩ (.int .i64 (keepI (addB a0.id a0.series a0.made a0.evs (a1.1, a1.2)) a0.series))).setCell ⟨N6, 2, none⟩ (.int .i64 (keepI (addB a0.id a0.series a0.made a0.evs (a1.1, a1.2)) a0.made))).setCell ⟨N6, 3, none⟩ (.slice A_w (addL a0.id a0.series a0.made a0.evs (a1.1, a1.2)).length C_w)) N6 30 #[.int .i64 (keepI (addB a0.id a0.series a0.made a0.evs (a1.1, a1.2)) a0.id), .int .i64 (keepI (addB a0.id a0.series a0.made a0.evs (a1.1, a1.2)) a0.series), .int .i64 (keepI (addB a0.id a0.series a0.made a0.evs (a1.1, a1.2)) a0.made), .slice A_w (addL a0.id a0.series a0.made a0.evs (a1.1, a1.2)).length C_w] := by
        have h := (Blk.set_ (Blk.set_ (Blk.set_ (Blk.set_ b6 0 (.int .i64 (keepI (addB a0.id a0.series a0.made a0.evs (a1.1, a1.2)) a0.id))) 1 (.int .i64 (keepI (addB a0.id a0.series a0.made a0.evs (a1.1, a1.2)) a0.series))) 2 (.int .i64 (keepI (addB a0.id a0.series a0.made a0.evs (a1.1, a1.2)) a0.made))) 3 (.slice A_w (addL a0.id a0.series a0.made a0.evs (a1.1, a1.2)).length C_w))
        simpa using h
      have hv8 := o_w.wr1 hwr (o_w.ne_blk2 b6 (by decide))
      try simp only [Act.put, List.setIfInBounds_toArray, List.set_cons_zero, List.set_cons_succ, List.getElem_toArray, List.getElem_cons_succ, List.getElem_cons_zero]
      refine wpAnyH_take (i := 10) (v := ?v14) rfl (by kernel_rfl) (by kernel_rfl) (by kernel_rfl) (fun _ _ _ h => h) (Or.inl ⟨by rfl, ?hy14⟩) hHeld ?rest14
      case hy14 => (intro W hSw; (try dsimp only at hSw); go_simp) <;> with_reducible rfl
      try simp only [Act.put, List.setIfInBounds_toArray, List.set_cons_zero, List.set_cons_succ, List.getElem_toArray, List.getElem_cons_succ, List.getElem_cons_zero]
      refine wpAnyH_done (by kernel_rfl) ?_ _
      refine NoPanic.normal ?_
      exact HT2.out _ _ _ _ _ _ _ _ _ _ _ _ _ _ _ _ _ _ _ _ _ _ _ _ _ _ _ _ _ _ _ _ _ _ _ _ _ _ _ _ _ _ _ _ _ _ _ _ _ _ _ _ _ _ _ _ _ _ _ _ _ _ _ _ _ _ _ _ _ _ _ _ _ _ _ _ _ _ _ _ _ _ _ _ _ _ _ _ _ _ _ _ _ _ _ _ _ _ _ _ _ _ _ hHeld.1 hv8 ho8 hzN
  · go_simp
    refine hK.out _ _ (HK.out _ (Below.alloc hHeld.1 hHeld.1.size _)) (fun hH2 => ?_)
    have hzN : w1.heap.size ≤ v2_0.heap.size := hHeld.1.size
    clear hK K hHeld
    have hHeld := hH2
    clear hH2
    have b6 : Blk (v2_0.alloc (.cells #[.int .i64 0, .int .i64 0, .int .i64 0, .slice none 0 0] 30)) v2_0.heap.size 30 #[.int .i64 0, .int .i64 0, .int .i64 0, .slice none 0 0] := Blk.new _ _ _
    generalize (v2_0.alloc (.cells #[.int .i64 0, .int .i64 0, .int .i64 0, .slice none 0 0] 30)) = v2_13 at *
    generalize v2_0.heap.size = N6 at *
    try simp only [Act.put, List.setIfInBounds_toArray, List.set_cons_zero, List.set_cons_succ, List.getElem_toArray, List.getElem_cons_succ, List.getElem_cons_zero]
    refine wpAnyH_ready (rs := [1]) (by kernel_rfl) (by simp) ?_
    refine AllReadyH.cons rfl (fun K hK => ?_) AllReadyH.nil
    go_simp
    refine (toRecord_any _ _ _ _ _ a0.evs _ (HLr0.out _ hHeld.1) hn0).mono ?_
    rintro e v2_14 ⟨g_y, gl_y, rfl, o_y, hd⟩
    go_wp2_with fail
    replace b6 := b6.below hd b6.lt
    refine hK.out _ _ (HK.out _ (blw hHeld.1 hd)) (fun hH2 => ?_)
    clear hK K hHeld
    have hHeld := hH2
    clear hH2
    clear hd
    try simp only [Act.put, List.setIfInBounds_toArray, List.set_cons_zero, List.set_cons_succ, List.getElem_toArray, List.getElem_cons_succ, List.getElem_cons_zero]
    refine wpAnyH_ready (rs := [3]) (by kernel_rfl) (by simp) ?_
    refine AllReadyH.cons rfl (fun K hK => ?_) AllReadyH.nil
    go_simp
    refine (toEvent_v _ _ _).mono ?_
    rintro e v2_15 ⟨rfl, hd⟩
    go_wp2_with fail
    replace b6 := b6.below hd b6.lt
    have o_y_ := o_y.below hd o_y.lt
    refine hK.out _ _ (HK.out _ (blw hHeld.1 hd)) (fun hH2 => ?_)
    clear hK K hHeld
    have hHeld := hH2
    clear hH2
    clear hd
    try simp only [Act.put, List.setIfInBounds_toArray, List.set_cons_zero, List.set_cons_succ, List.getElem_toArray, List.getElem_cons_succ, List.getElem_cons_zero]
    refine wpAnyH_ready (rs := [4]) (by kernel_rfl) (by simp) ?_
    refine AllReadyH.cons rfl (fun K hK => ?_) AllReadyH.nil
    go_simp
    refine (c_spec_AddEvent _ _ _ _ _ a0.evs _ _ _ (o_y_.ls encEv_len) hn0 (Nat.le_refl _)).mono ?_
    rintro e v2_16 ⟨A_w, C_w, rfl, o_w, hd⟩
    replace o_w := o_w.mono hHeld.1.size
    go_wp2_with fail
    replace b6 := b6.below hd b6.lt
    have o_y__ := o_y_.below hd o_y_.lt
    refine hK.out _ _ (HK.out _ (blw hHeld.1 hd)) (fun hH2 => ?_)
    clear hK K hHeld
    have hHeld := hH2
    clear hH2
    clear hd
    try simp only [Act.put, List.setIfInBounds_toArray, List.set_cons_zero, List.set_cons_succ, List.getElem_toArray, List.getElem_cons_succ, List.getElem_cons_zero]
    refine wpAnyH_take (i := 5) (v := ?v15) rfl (by kernel_rfl) (by kernel_rfl) (by kernel_rfl) (fun _ _ _ h => h) (Or.inl ⟨by rfl, ?hy15⟩) hHeld ?rest15
    case hy15 => (intro W hSw; (try dsimp only at hSw); go_simp) <;> with_reducible rfl
    try simp only [Act.put, List.setIfInBounds_toArray, List.set_cons_zero, List.set_cons_succ, List.getElem_toArray, List.getElem_cons_succ, List.getElem_cons_zero]
    refine wpAnyH_take (i := 6) (v := ?v16) rfl (by kernel_rfl) (by kernel_rfl) (by kernel_rfl) (fun _ _ _ h => h) (Or.inl ⟨by rfl, ?hy16⟩) hHeld ?rest16
    case hy16 => (intro W hSw; (try dsimp only at hSw); go_simp) <;> with_reducible rfl
    try simp only [Act.put, List.setIfInBounds_toArray, List.set_cons_zero, List.set_cons_succ, List.getElem_toArray, List.getElem_cons_succ, List.getElem_cons_zero]
    refine wpAnyH_take (i := 7) (v := ?v17) rfl (by kernel_rfl) (by kernel_rfl) (by kernel_rfl) (fun _ _ _ h => h) (Or.inl ⟨by rfl, ?hy17⟩) hHeld ?rest17
    case hy17 => (intro W hSw; (try dsimp only at hSw); go_simp) <;> with_reducible rfl
    try simp only [Act.put, List.setIfInBounds_toArray, List.set_cons_zero, List.set_cons_succ, List.getElem_toArray, List.getElem_cons_succ, List.getElem_cons_zero]
    refine wpAnyH_ready (rs := [9]) (by kernel_rfl) (by simp) ?_
    refine AllReadyH.cons rfl (fun K hK => ?_) AllReadyH.nil
    have c60 := b6.cell 0
    have c61 := b6.cell 1
    have c62 := b6.cell 2
    have c63 := b6.cell 3
    have f60 := b6.frozen 0
    have f61 := b6.frozen 1
    have f62 := b6.frozen 2
    have f63 := b6.frozen 3
    go_simp
    refine hK.out _ _ (HK.out _ (Below.setCell (Below.setCell (Below.setCell (Below.setCell hHeld.1 (p := ⟨N6, 0, none⟩) hzN (.int .i64 (keepI (addB a0.id a0.series a0.made a0.evs (a1.1, a1.2)) a0.id))) (p := ⟨N6, 1, none⟩) hzN (.int .i64 (keepI (addB a0.id a0.series a0.made a0.evs (a1.1, a1.2)) a0.series))) (p := ⟨N6, 2, none⟩) hzN (.int .i64 (keepI (addB a0.id a0.series a0.made a0.evs (a1.1, a1.2)) a0.made))) (p := ⟨N6, 3, none⟩) hzN (.slice A_w (addL a0.id a0.series a0.made a0.evs (a1.1, a1.2)).length C_w))) (fun hH2 => ?_)
    clear hK K hHeld
    have hHeld := hH2
    clear hH2
    have hwr : Wr (fun q => q = N6) v2_16 ((((v2_16.setCell ⟨N6, 0, none⟩ (.int .i64 (keepI (addB a0.id a0.series a0.made a0.evs (a1.1, a1.2)) a0.id))).setCell ⟨N6, 1, none⟩ (.int .i64 (keepI (addB a0.id a0.series a0.made a0.evs (a1.1, a1.2)) a0.series))).setCell ⟨N6, 2, none⟩ (.int .i64 (keepI (addB a0.id a0.series a0.made a0.evs (a1.1, a1.2)) a0.made))).setCell ⟨N6, 3, none⟩ (.slice A_w (addL a0.id a0.series a0.made a0.evs (a1.1, a1.2)).length C_w)) := (Wr.setCell (p := ⟨N6, 3, none⟩) (Wr.setCell (p := ⟨N6, 2, none⟩) (Wr.setCell (p := ⟨N6, 1, none⟩) (Wr.setCell (p := ⟨N6, 0, none⟩) (Wr.refl (fun q => q = N6) v2_16) (.inl rfl) (.int .i64 (keepI (addB a0.id a0.series a0.made a0.evs (a1.1, a1.2)) a0.id))) (.inl rfl) (.int .i64 (keepI (addB a0.id a0.series a0.made a0.evs (a1.1, a1.2)) a0.series))) (.inl rfl) (.int .i64 (keepI (addB a0.id a0.series a0.made a0.evs (a1.1, a1.2)) a0.made))) (.inl rfl) (.slice A_w (addL a0.id a0.series a0.made a0.evs (a1.1, a1.2)).length C_w))
    have ho8 : Blk ((((v2_16.setCell ⟨N6, 0, none⟩ (.int .i64 (keepI (addB a0.id a0.series a0.made a0.evs (a1.1, a1.2)) a0.id))).setCell ⟨N6, 1, none⟩ (.int .i64 (keepI (addB a0.id a0.series a0.made a0.evs (a1.1, a1.2)) a0.series))).setCell ⟨N6, 2, none⟩ (.int .i64 (keepI (addB a0.id a0.series a0.made a0.evs (a1.1, a1.2)) a0.made))).setCell ⟨N6, 3, none⟩ (.slice A_w (addL a0.id a0.series a0.made a0.evs (a1.1, a1.2)).length C_w)) N6 30 #[.int .i64 (keepI (addB a0.id a0.series a0.made a0.evs (a1.1, a1.2)) a0.id), .int .i64 (keepI (addB a0.id a0.series a0.made a0.evs (a1.1, a1.2)) a0.series), .int .i64 (keepI (addB a0.id a0.series a0.made a0.evs (a1.1, a1.2)) a0.made), .slice A_w (addL a0.id a0.series a0.made a0.evs (a1.1, a1.2)).length C_w] := by
      have h := (Blk.set_ (Blk.set_ (Blk.set_ (Blk.set_ b6 0 (.int .i64 (keepI (addB a0.id a0.series a0.made a0.evs (a1.1, a1.2)) a0.id))) 1 (.int .i64 (keepI (addB a0.id a0.series a0.made a0.evs (a1.1, a1.2)) a0.series))) 2 (.int .i64 (keepI (addB a0.id a0.series a0.made a0.evs (a1.1, a1.2)) a0.made))) 3 (.slice A_w (addL a0.id a0.series a0.made a0.evs (a1.1, a1.2)).length C_w))
      simpa using h
    have hv8 := o_w.wr1 hwr (o_w.ne_blk2 b6 (by decide))
    try simp only [Act.put, List.setIfInBounds_toArray, List.set_cons_zero, List.set_cons_succ, List.getElem_toArray, List.getElem_cons_succ, List.getElem_cons_zero]
    refine wpAnyH_take (i := 10) (v := ?v18) rfl (by kernel_rfl) (by kernel_rfl) (by kernel_rfl) (fun _ _ _ h => h) (Or.inl ⟨by rfl, ?hy18⟩) hHeld ?rest18
    case hy18 => (intro W hSw; (try dsimp only at hSw); go_simp) <;> with_reducible rfl
    try simp only [Act.put, List.setIfInBounds_toArray, List.set_cons_zero, List.set_cons_succ, List.getElem_toArray, List.getElem_cons_succ, List.getElem_cons_zero]
    refine wpAnyH_done (by kernel_rfl) ?_ _
    refine NoPanic.normal ?_
    exact HT2.out _ _ _ _ _ _ _ _ _ _ _ _ _ _ _ _ _ _ _ _ _ _ _ _ _ _ _ _ _ _ _ _ _ _ _ _ _ _ _ _ _ _ _ _ _ _ _ _ _ _ _ _ _ _ _ _ _ _ _ _ _ _ _ _ _ _ _ _ _ _ _ _ _ _ _ _ _ _ _ _ _ _ _ _ _ _ _ _ _ _ _ _ _ _ _ _ _ _ _ _ _ _ _ hHeld.1 hv8 ho8 hzN

end Go.Proofs.Ytnohonedfeacdaa
