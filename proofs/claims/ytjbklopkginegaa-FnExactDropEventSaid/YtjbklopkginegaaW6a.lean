/- Contracts of the functions of l6_periods.go. -/
import Derived.Test.YtjbklopkginegaaD6
namespace Go.Proofs.Ytjbklopkginegaa
set_option linter.unusedVariables false
set_option linter.unusedSimpArgs false
open Go.RowKit
attribute [local go_sem] Aft.cell

theorem ret_ints {a b : Int} {c d : Bool} (h : a = b) (h2 : c = d) : Ending.returned (.tuple #[.int .i64 a, .bool c]) = .returned (.tuple #[.int .i64 b, .bool d]) := by rw [h, h2]

set_option maxHeartbeats 1000000 in
theorem l6Asked_any (id series made : Int) (A : Option Addr) (c : Nat) (l : List Ev) (A' : Option Addr) (c' : Nat) (rs : List RuleD) (w : World) (hl : Ls w w.heap.size encEv 2 A l) (hm : l.length ≤ 1048576) (hr : Ls w w.heap.size encRule 4 A' rs) (hmr : rs.length ≤ 1048576) :
    Calls Try.prog 71 #[.agg #[.int .i64 id, .int .i64 series, .int .i64 made, .slice A l.length c], .slice A' rs.length c'] w fun e w' => e = .returned (.bool (askB id series made l rs)) ∧ Below w.heap.size w w' := by
  have hm' : l.length ≤ 9223372036854775807 := by omega
  have hl0 := (hl.alloc (Nat.le_refl _) (.cells #[.int .i64 id, .int .i64 series, .int .i64 made, .slice A l.length c] 30)).more (B' := (w.alloc (.cells #[.int .i64 id, .int .i64 series, .int .i64 made, .slice A l.length c] 30)).heap.size) (by simp)
  have hbx := RecBox.new w id series made A l.length c 30
  have hB := blw_alloc (Below.refl w.heap.size w) (.cells #[.int .i64 id, .int .i64 series, .int .i64 made, .slice A l.length c] 30)
  cases h1 : recB id series made l
  · have Hv : Hid (askB id series made l rs = false) := by simp [Hid, askB, h1]
    go_enter Try.func71, Try.ntmps71
    go_wp2_with (go_at_call 52; refine (l2Record_any _ _ _ _ _ l _ hl0 hm').mono ?_; rw [h1]; rintro e w1 ⟨rfl, hb1⟩)
    go_ret
    exact ⟨ret_bool Hv.out.symm, hB.trans (hb1.mono hB.size)⟩
  · have Hv : Hid (askB id series made l rs = schedB rs) := by simp [Hid, askB, h1]
    go_enter Try.func71, Try.ntmps71
    go_wp2_with fail
    refine (l2Record_any _ _ _ _ _ l _ hl0 hm').mono ?_
    rw [h1]
    rintro e w1 ⟨rfl, hb1⟩
    have hB1 := hB.trans (hb1.mono hB.size)
    clear hB
    go_wp2_with fail
    refine (l4Good_any _ _ rs _ ((hr.below hB1).more hB1.size) (by omega)).mono ?_
    generalize schedB rs = sb at *
    rintro e w2 ⟨rfl, hb2⟩
    go_wp2_with fail
    go_ret
    exact ⟨ret_bool Hv.out.symm, blw hB1 hb2⟩

set_option maxHeartbeats 1000000 in
theorem areBoth_any (id series made : Int) (A : Option Addr) (c : Nat) (l : List Ev) (A' : Option Addr) (c' : Nat) (rs : List RuleD) (w : World) (hl : Ls w w.heap.size encEv 2 A l) (hm : l.length ≤ 1048576) (hr : Ls w w.heap.size encRule 4 A' rs) (hmr : rs.length ≤ 1048576) :
    Calls Try.prog 74 #[.agg #[.int .i64 id, .int .i64 series, .int .i64 made, .slice A l.length c], .slice A' rs.length c'] w fun e w' => e = .returned (.bool (askB id series made l rs)) ∧ Below w.heap.size w w' := by
  have hm' : l.length ≤ 9223372036854775807 := by omega
  have hl0 := (hl.alloc (Nat.le_refl _) (.cells #[.int .i64 id, .int .i64 series, .int .i64 made, .slice A l.length c] 30)).more (B' := (w.alloc (.cells #[.int .i64 id, .int .i64 series, .int .i64 made, .slice A l.length c] 30)).heap.size) (by simp)
  have hbx := RecBox.new w id series made A l.length c 30
  have hB := blw_alloc (Below.refl w.heap.size w) (.cells #[.int .i64 id, .int .i64 series, .int .i64 made, .slice A l.length c] 30)
  cases h1 : recB id series made l
  · have Hv : Hid (askB id series made l rs = false) := by simp [Hid, askB, h1]
    go_enter Try.func74, Try.ntmps74
    go_wp2_with (go_at_call 55; refine (IsRecord_any _ _ _ _ _ l _ hl0 hm').mono ?_; rw [h1]; rintro e w1 ⟨rfl, hb1⟩)
    go_ret
    exact ⟨ret_bool Hv.out.symm, hB.trans (hb1.mono hB.size)⟩
  · have Hv : Hid (askB id series made l rs = schedB rs) := by simp [Hid, askB, h1]
    go_enter Try.func74, Try.ntmps74
    go_wp2_with fail
    refine (IsRecord_any _ _ _ _ _ l _ hl0 hm').mono ?_
    rw [h1]
    rintro e w1 ⟨rfl, hb1⟩
    have hB1 := hB.trans (hb1.mono hB.size)
    clear hB
    go_wp2_with fail
    refine (IsSchedule_any _ _ rs _ ((hr.below hB1).more hB1.size) (by omega)).mono ?_
    generalize schedB rs = sb at *
    rintro e w2 ⟨rfl, hb2⟩
    go_wp2_with fail
    go_ret
    exact ⟨ret_bool Hv.out.symm, blw hB1 hb2⟩

set_option maxHeartbeats 1000000 in
theorem l6End_any (id series made : Int) (A : Option Addr) (c : Nat) (l : List Ev) (s e d a : Int) (w : World) (hl : Ls w w.heap.size encEv 2 A l) (h1 : recB id series made l = true) (hd : 0 ≤ d ∧ d ≤ 20000) :
    Calls Try.prog 80 #[.agg #[.int .i64 id, .int .i64 series, .int .i64 made, .slice A l.length c], .agg #[.int .i64 s, .int .i64 e, .int .i64 d, .int .i64 a]] w fun e' w' => e' = .returned (.int .i64 (endV made l e d)) ∧ Below w.heap.size w w' := by
  have hm : l.length ≤ 6 := (evB_of_rec h1).2.2.1
  have hm' : l.length ≤ 9223372036854775807 := by omega
  have hl0 := ((hl.alloc (Nat.le_refl _) (.cells #[.int .i64 id, .int .i64 series, .int .i64 made, .slice A l.length c] 30)).alloc (by simp) (.cells #[.int .i64 s, .int .i64 e, .int .i64 d, .int .i64 a] 62)).more (B' := ((w.alloc (.cells #[.int .i64 id, .int .i64 series, .int .i64 made, .slice A l.length c] 30)).alloc (.cells #[.int .i64 s, .int .i64 e, .int .i64 d, .int .i64 a] 62)).heap.size) (by simp; omega)
  have hB := blw_alloc (blw_alloc (Below.refl w.heap.size w) (.cells #[.int .i64 id, .int .i64 series, .int .i64 made, .slice A l.length c] 30)) (.cells #[.int .i64 s, .int .i64 e, .int .i64 d, .int .i64 a] 62)
  have hx1 : ((w.alloc (.cells #[.int .i64 id, .int .i64 series, .int .i64 made, .slice A l.length c] 30)).alloc (.cells #[.int .i64 s, .int .i64 e, .int .i64 d, .int .i64 a] 62)).cell? ⟨w.heap.size + 1, 2, none⟩ = some (.int .i64 d) := by simp
  have hxl : w.heap.size + 1 < ((w.alloc (.cells #[.int .i64 id, .int .i64 series, .int .i64 made, .slice A l.length c] 30)).alloc (.cells #[.int .i64 s, .int .i64 e, .int .i64 d, .int .i64 a] 62)).heap.size := by simp
  have hbd := dayR_bd h1 e
  go_enter Try.func80, Try.ntmps80
  go_wp2_with fail
  generalize ((w.alloc (.cells #[.int .i64 id, .int .i64 series, .int .i64 made, .slice A l.length c] 30)).alloc (.cells #[.int .i64 s, .int .i64 e, .int .i64 d, .int .i64 a] 62)) = W0 at *
  refine (l2DayOf_any _ _ _ _ _ l _ _ hl0 hm').mono ?_
  cases hh : okD l e
  · have Hv : Hid (endV made l e d = -1) := by simp [Hid, endV, hh]
    have hd' : decide (dayV made l e < 0) = true := by rw [dayV_neg e h1, hh]; rfl
    generalize dayV made l e = dv at *
    rintro e' w1 ⟨rfl, hb1⟩
    go_wp2_with fail
    go_ret
    exact ⟨ret_int Hv.out.symm, hB.trans (hb1.mono hB.size)⟩
  · have Hv : Hid (endV made l e d = dayR made l e + d) := by simp [Hid, endV, hh]
    rw [dayV_pos hh]
    generalize dayR made l e = dr at *
    have hd' : decide (dr < 0) = false := by simp; omega
    rintro e' w1 ⟨rfl, hb1⟩
    have hx2 := (hb1.cell (p := ⟨w.heap.size + 1, 2, none⟩) hxl).trans hx1
    go_wp2_with fail
    go_ret
    exact ⟨ret_int Hv.out.symm, hB.trans (hb1.mono hB.size)⟩

set_option maxHeartbeats 1000000 in
theorem endOf_any (id series made : Int) (A : Option Addr) (c : Nat) (l : List Ev) (s e d a : Int) (w : World) (hl : Ls w w.heap.size encEv 2 A l) (h1 : recB id series made l = true) (hd : 0 ≤ d ∧ d ≤ 20000) :
    Calls Try.prog 82 #[.agg #[.int .i64 id, .int .i64 series, .int .i64 made, .slice A l.length c], .agg #[.int .i64 s, .int .i64 e, .int .i64 d, .int .i64 a]] w fun e' w' => e' = .returned (.int .i64 (endV made l e d)) ∧ Below w.heap.size w w' := by
  have hm : l.length ≤ 6 := (evB_of_rec h1).2.2.1
  have hm' : l.length ≤ 9223372036854775807 := by omega
  have hl0 := ((hl.alloc (Nat.le_refl _) (.cells #[.int .i64 id, .int .i64 series, .int .i64 made, .slice A l.length c] 30)).alloc (by simp) (.cells #[.int .i64 s, .int .i64 e, .int .i64 d, .int .i64 a] 62)).more (B' := ((w.alloc (.cells #[.int .i64 id, .int .i64 series, .int .i64 made, .slice A l.length c] 30)).alloc (.cells #[.int .i64 s, .int .i64 e, .int .i64 d, .int .i64 a] 62)).heap.size) (by simp; omega)
  have hB := blw_alloc (blw_alloc (Below.refl w.heap.size w) (.cells #[.int .i64 id, .int .i64 series, .int .i64 made, .slice A l.length c] 30)) (.cells #[.int .i64 s, .int .i64 e, .int .i64 d, .int .i64 a] 62)
  have hx1 : ((w.alloc (.cells #[.int .i64 id, .int .i64 series, .int .i64 made, .slice A l.length c] 30)).alloc (.cells #[.int .i64 s, .int .i64 e, .int .i64 d, .int .i64 a] 62)).cell? ⟨w.heap.size + 1, 2, none⟩ = some (.int .i64 d) := by simp
  have hxl : w.heap.size + 1 < ((w.alloc (.cells #[.int .i64 id, .int .i64 series, .int .i64 made, .slice A l.length c] 30)).alloc (.cells #[.int .i64 s, .int .i64 e, .int .i64 d, .int .i64 a] 62)).heap.size := by simp
  have hbd := dayR_bd h1 e
  go_enter Try.func82, Try.ntmps82
  go_wp2_with fail
  generalize ((w.alloc (.cells #[.int .i64 id, .int .i64 series, .int .i64 made, .slice A l.length c] 30)).alloc (.cells #[.int .i64 s, .int .i64 e, .int .i64 d, .int .i64 a] 62)) = W0 at *
  refine (dayOf_any _ _ _ _ _ l _ _ hl0 hm').mono ?_
  cases hh : okD l e
  · have Hv : Hid (endV made l e d = -1) := by simp [Hid, endV, hh]
    rintro e' w1 ⟨rfl, hb1⟩
    go_wp2_with fail
    go_ret
    exact ⟨ret_int Hv.out.symm, hB.trans (hb1.mono hB.size)⟩
  · have Hv : Hid (endV made l e d = dayR made l e + d) := by simp [Hid, endV, hh]
    generalize dayR made l e = dr at *
    rintro e' w1 ⟨rfl, hb1⟩
    have hx2 := (hb1.cell (p := ⟨w.heap.size + 1, 2, none⟩) hxl).trans hx1
    go_wp2_with fail
    go_ret
    exact ⟨ret_int Hv.out.symm, hB.trans (hb1.mono hB.size)⟩


end Go.Proofs.Ytjbklopkginegaa
