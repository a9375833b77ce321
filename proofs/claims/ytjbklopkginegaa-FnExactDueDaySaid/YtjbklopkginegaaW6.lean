/- Contracts of DueDay, DecidingRule, IsDue and EndsOf, as the laws take them. -/
import Derived.Test.YtjbklopkginegaaW6b
namespace Go.Proofs.Ytjbklopkginegaa
set_option linter.unusedVariables false
set_option linter.unusedSimpArgs false
open Go.RowKit
attribute [local go_sem] Aft.cell

theorem Below.set4 {B : Nat} {a b : World} (h : Below B a b) {p : Nat} (hp : B ≤ p) (u0 u1 u2 u3 : Value) :
    Below B a ((((b.setCell ⟨p, 0, none⟩ u0).setCell ⟨p, 1, none⟩ u1).setCell ⟨p, 2, none⟩ u2).setCell ⟨p, 3, none⟩ u3) := (((h.setCell hp u0).setCell hp u1).setCell hp u2).setCell hp u3

set_option maxHeartbeats 2000000 in
theorem c_spec_DueDay (id series made : Int) (A : Option Addr) (c : Nat) (l : List Ev) (A' : Option Addr) (c' : Nat) (rs : List RuleD) (w : World) (hl : Ls w w.heap.size encEv 2 A l) (hm : l.length ≤ 1048576) (hr : Ls w w.heap.size encRule 4 A' rs) (hmr : rs.length ≤ 1048576) :
    Calls Try.prog 44 #[.agg #[.int .i64 id, .int .i64 series, .int .i64 made, .slice A l.length c], .slice A' rs.length c'] w fun e w' => e = .returned (.tuple #[.int .i64 (dueF id series made l rs), .bool (decBF id series made l rs)]) ∧ Below w.heap.size w w' := by
  have hl0 := (hl.alloc (Nat.le_refl _) (.cells #[.int .i64 id, .int .i64 series, .int .i64 made, .slice A l.length c] 30)).more (B' := (w.alloc (.cells #[.int .i64 id, .int .i64 series, .int .i64 made, .slice A l.length c] 30)).heap.size) (by simp)
  have hr0 := (hr.alloc (Nat.le_refl _) (.cells #[.int .i64 id, .int .i64 series, .int .i64 made, .slice A l.length c] 30)).more (B' := (w.alloc (.cells #[.int .i64 id, .int .i64 series, .int .i64 made, .slice A l.length c] 30)).heap.size) (by simp)
  have hbx := RecBox.new w id series made A l.length c 30
  have hB := blw_alloc (Below.refl w.heap.size w) (.cells #[.int .i64 id, .int .i64 series, .int .i64 made, .slice A l.length c] 30)
  cases h1 : askB id series made l rs
  · have Hv : Hid (dueF id series made l rs = 0 ∧ decBF id series made l rs = false) := by simp [Hid, dueF, decBF, h1]
    go_enter Try.func44, Try.ntmps44
    go_wp2_with fail
    generalize (w.alloc (.cells #[.int .i64 id, .int .i64 series, .int .i64 made, .slice A l.length c] 30)) = W0 at *
    refine (l6Asked_any _ _ _ _ _ l _ _ rs _ hl0 hm hr0 hmr).mono ?_
    rw [h1]
    rintro e w1 ⟨rfl, hb1⟩
    go_wp2_with fail
    go_ret2
    exact ⟨by rw [Hv.out.1, Hv.out.2]; rfl, hB.trans (hb1.mono hB.size)⟩
  · have ha : recB id series made l = true ∧ schedB rs = true := by simpa [askB] using h1
    have Hv : Hid (dueF id series made l rs = (if 0 ≤ (decD made l (forS rs series)) then (decD made l (forS rs series)) else 0) ∧ decBF id series made l rs = decide (0 ≤ (decD made l (forS rs series)))) := by
      unfold Hid dueF decBF
      rw [h1]
      simp
    go_enter Try.func44, Try.ntmps44
    go_wp2_with fail
    generalize (w.alloc (.cells #[.int .i64 id, .int .i64 series, .int .i64 made, .slice A l.length c] 30)) = W0 at *
    refine (l6Asked_any _ _ _ _ _ l _ _ rs _ hl0 hm hr0 hmr).mono ?_
    rw [h1]
    rintro e w1 ⟨rfl, hb1⟩
    have hB1 := hB.trans (hb1.mono hB.size)
    obtain ⟨r0, r1, r2, r3, rl⟩ := hbx.below hb1
    have hl1 := (hl0.below hb1).more hb1.size
    have hr1 := (hr0.below hb1).more hb1.size
    go_wp2_with fail
    refine (l6Deciding_any _ _ _ _ _ l _ _ rs _ hl1 hr1 ha.1 ha.2).mono ?_
    generalize decR made l (forS rs series) = R at *
    generalize (decD made l (forS rs series)) = D at *
    rintro e w2 ⟨rfl, hb2⟩
    have hB2 := hB1.trans (hb2.mono hB1.size)
    by_cases h0 : 0 ≤ D
    · have h00 : ¬ D < 0 := by omega
      have ht : top0 D = D := by unfold top0; omega
      have hp : posB D = true := by unfold posB; simpa using h0
      rw [if_pos h0, decide_eq_true h0] at Hv
      skip
      go_wp2_with fail
      go_ret2
      exact ⟨by rw [Hv.out.1, Hv.out.2]; rfl, blw_alloc hB2 _⟩
    · have h00 : D < 0 := by omega
      have ht : top0 D = 0 := by unfold top0; omega
      have hp : posB D = false := by unfold posB; simpa using h0
      rw [if_neg h0, decide_eq_false h0] at Hv
      go_wp2_with fail
      go_ret2
      exact ⟨by rw [Hv.out.1, Hv.out.2]; rfl, blw_alloc hB2 _⟩

set_option maxHeartbeats 2000000 in
theorem c_spec_DecidingRule (id series made : Int) (A : Option Addr) (c : Nat) (l : List Ev) (A' : Option Addr) (c' : Nat) (rs : List RuleD) (w : World) (hl : Ls w w.heap.size encEv 2 A l) (hm : l.length ≤ 1048576) (hr : Ls w w.heap.size encRule 4 A' rs) (hmr : rs.length ≤ 1048576) :
    Calls Try.prog 39 #[.agg #[.int .i64 id, .int .i64 series, .int .i64 made, .slice A l.length c], .slice A' rs.length c'] w fun e w' => e = .returned (.tuple #[.agg #[.int .i64 (decRF id series made l rs).s, .int .i64 (decRF id series made l rs).e, .int .i64 (decRF id series made l rs).d, .int .i64 (decRF id series made l rs).a], .bool (decBF id series made l rs)]) ∧ Below w.heap.size w w' := by
  have hl0 := ((hl.alloc (Nat.le_refl _) (.cells #[.int .i64 id, .int .i64 series, .int .i64 made, .slice A l.length c] 30)).alloc (by simp) (.cells (cellsR rule0) 62)).more (B' := ((w.alloc (.cells #[.int .i64 id, .int .i64 series, .int .i64 made, .slice A l.length c] 30)).alloc (.cells (cellsR rule0) 62)).heap.size) (by simp; omega)
  have hr0 := ((hr.alloc (Nat.le_refl _) (.cells #[.int .i64 id, .int .i64 series, .int .i64 made, .slice A l.length c] 30)).alloc (by simp) (.cells (cellsR rule0) 62)).more (B' := ((w.alloc (.cells #[.int .i64 id, .int .i64 series, .int .i64 made, .slice A l.length c] 30)).alloc (.cells (cellsR rule0) 62)).heap.size) (by simp; omega)
  have hbx := (RecBox.new w id series made A l.length c 30).below (blw_alloc (Below.refl _ _) (.cells (cellsR rule0) 62))
  have hB := blw_alloc (blw_alloc (Below.refl w.heap.size w) (.cells #[.int .i64 id, .int .i64 series, .int .i64 made, .slice A l.length c] 30)) (.cells (cellsR rule0) 62)
  have hz : Blk ((w.alloc (.cells #[.int .i64 id, .int .i64 series, .int .i64 made, .slice A l.length c] 30)).alloc (.cells (cellsR rule0) 62)) (w.heap.size + 1) 62 (cellsR rule0) := by
    have h := Blk.new (w.alloc (.cells #[.int .i64 id, .int .i64 series, .int .i64 made, .slice A l.length c] 30)) 62 (cellsR rule0)
    simpa using h
  cases h1 : askB id series made l rs
  · have Hv : Hid (decRF id series made l rs = rule0 ∧ decBF id series made l rs = false) := by simp [Hid, decRF, decBF, h1]
    go_enter Try.func39, Try.ntmps39
    go_wp2_with fail
    change Calls Try.prog 71 _ ((w.alloc (.cells #[.int .i64 id, .int .i64 series, .int .i64 made, .slice A l.length c] 30)).alloc (.cells (cellsR rule0) 62)) _
    generalize ((w.alloc (.cells #[.int .i64 id, .int .i64 series, .int .i64 made, .slice A l.length c] 30)).alloc (.cells (cellsR rule0) 62)) = W0 at *
    refine (l6Asked_any _ _ _ _ _ l _ _ rs _ hl0 hm hr0 hmr).mono ?_
    rw [h1]
    rintro e w1 ⟨rfl, hb1⟩
    obtain ⟨z0, z1, z2, z3, y0, y1, y2, y3, yl⟩ := (hz.below hb1 hz.lt).cellsR
    have hB1 := hB.trans (hb1.mono hB.size)
    go_wp2_with fail
    refine bodyPost_ret (v := .tuple #[.agg #[.int .i64 0, .int .i64 0, .int .i64 0, .int .i64 0], .bool false]) (by simp [results, Try.results39, go_sem, yl, z0, z1, z2, z3]) rfl ⟨?_, ?_⟩
    · rw [Hv.out.1, Hv.out.2]; rfl
    · exact ((((hB1.setCell (by simp) _).setCell (by simp) _).setCell (by simp) _).setCell (by simp) _)
  · have ha : recB id series made l = true ∧ schedB rs = true := by simpa [askB] using h1
    have Hv : Hid (decRF id series made l rs = decR made l (forS rs series) ∧ decBF id series made l rs = posB (decD made l (forS rs series))) := by simp [Hid, decRF, decBF, posB, h1]
    go_enter Try.func39, Try.ntmps39
    go_wp2_with fail
    change Calls Try.prog 71 _ ((w.alloc (.cells #[.int .i64 id, .int .i64 series, .int .i64 made, .slice A l.length c] 30)).alloc (.cells (cellsR rule0) 62)) _
    generalize ((w.alloc (.cells #[.int .i64 id, .int .i64 series, .int .i64 made, .slice A l.length c] 30)).alloc (.cells (cellsR rule0) 62)) = W0 at *
    refine (l6Asked_any _ _ _ _ _ l _ _ rs _ hl0 hm hr0 hmr).mono ?_
    rw [h1]
    rintro e w1 ⟨rfl, hb1⟩
    have hB1 := hB.trans (hb1.mono hB.size)
    obtain ⟨r0, r1, r2, r3, rl⟩ := hbx.below hb1
    have hl1 := (hl0.below hb1).more hb1.size
    have hr1 := (hr0.below hb1).more hb1.size
    have hz1 := hz.below hb1 hz.lt
    go_wp2_with fail
    refine (l6Deciding_any _ _ _ _ _ l _ _ rs _ hl1 hr1 ha.1 ha.2).mono ?_
    generalize decR made l (forS rs series) = R at *
    generalize (decD made l (forS rs series)) = D at *
    rintro e w2 ⟨rfl, hb2⟩
    have hB2 := hB1.trans (hb2.mono hB1.size)
    obtain ⟨z0, z1, z2, z3, y0, y1, y2, y3, yl⟩ := (hz1.below hb2 hz1.lt).cellsR
    have yl2 : w.heap.size + 1 < w2.heap.size + 1 := by omega
    by_cases h0 : 0 ≤ D
    · have h00 : ¬ D < 0 := by omega
      have hp : posB D = true := by unfold posB; simpa using h0
      go_wp2_with fail
      refine bodyPost_ret (v := .tuple #[.agg #[.int .i64 R.s, .int .i64 R.e, .int .i64 R.d, .int .i64 R.a], .bool true]) (by simp [results, Try.results39, go_sem, yl, yl2, z0, z1, z2, z3, h00]) rfl ⟨?_, ?_⟩
      · rw [Hv.out.1, Hv.out.2, hp]
      · exact blw_alloc (Below.set4 hB2 (Nat.le_succ _) _ _ _ _) _
    · have h00 : D < 0 := by omega
      have hp : posB D = false := by unfold posB; simpa using h0
      go_wp2_with fail
      refine bodyPost_ret (v := .tuple #[.agg #[.int .i64 R.s, .int .i64 R.e, .int .i64 R.d, .int .i64 R.a], .bool false]) (by simp [results, Try.results39, go_sem, yl, yl2, z0, z1, z2, z3, h00]) rfl ⟨?_, ?_⟩
      · rw [Hv.out.1, Hv.out.2, hp]
      · exact blw_alloc (Below.set4 hB2 (Nat.le_succ _) _ _ _ _) _

set_option maxHeartbeats 2000000 in
theorem c_impl_DueDay (id series made : Int) (A : Option Addr) (c : Nat) (l : List Ev) (A' : Option Addr) (c' : Nat) (rs : List RuleD) (w : World) (hl : Ls w w.heap.size encEv 2 A l) (hm : l.length ≤ 1048576) (hr : Ls w w.heap.size encRule 4 A' rs) (hmr : rs.length ≤ 1048576) :
    Calls Try.prog 45 #[.agg #[.int .i64 id, .int .i64 series, .int .i64 made, .slice A l.length c], .slice A' rs.length c'] w fun e w' => e = .returned (.tuple #[.int .i64 (dueF id series made l rs), .bool (decBF id series made l rs)]) ∧ Below w.heap.size w w' := by
  have hl0 := (hl.alloc (Nat.le_refl _) (.cells #[.int .i64 id, .int .i64 series, .int .i64 made, .slice A l.length c] 30)).more (B' := (w.alloc (.cells #[.int .i64 id, .int .i64 series, .int .i64 made, .slice A l.length c] 30)).heap.size) (by simp)
  have hr0 := (hr.alloc (Nat.le_refl _) (.cells #[.int .i64 id, .int .i64 series, .int .i64 made, .slice A l.length c] 30)).more (B' := (w.alloc (.cells #[.int .i64 id, .int .i64 series, .int .i64 made, .slice A l.length c] 30)).heap.size) (by simp)
  have hbx := RecBox.new w id series made A l.length c 30
  have hB := blw_alloc (Below.refl w.heap.size w) (.cells #[.int .i64 id, .int .i64 series, .int .i64 made, .slice A l.length c] 30)
  cases h1 : askB id series made l rs
  · have Hv : Hid (dueF id series made l rs = 0 ∧ decBF id series made l rs = false) := by simp [Hid, dueF, decBF, h1]
    go_enter Try.func45, Try.ntmps45
    go_wp2_with fail
    generalize (w.alloc (.cells #[.int .i64 id, .int .i64 series, .int .i64 made, .slice A l.length c] 30)) = W0 at *
    refine (areBoth_any _ _ _ _ _ l _ _ rs _ hl0 hm hr0 hmr).mono ?_
    rw [h1]
    rintro e w1 ⟨rfl, hb1⟩
    go_wp2_with fail
    go_ret2
    exact ⟨by rw [Hv.out.1, Hv.out.2]; rfl, hB.trans (hb1.mono hB.size)⟩
  · have ha : recB id series made l = true ∧ schedB rs = true := by simpa [askB] using h1
    have Hv : Hid (dueF id series made l rs = (if 0 ≤ (decD made l (forS rs series)) then (decD made l (forS rs series)) else 0) ∧ decBF id series made l rs = decide (0 ≤ (decD made l (forS rs series)))) := by
      unfold Hid dueF decBF
      rw [h1]
      simp
    go_enter Try.func45, Try.ntmps45
    go_wp2_with fail
    generalize (w.alloc (.cells #[.int .i64 id, .int .i64 series, .int .i64 made, .slice A l.length c] 30)) = W0 at *
    refine (areBoth_any _ _ _ _ _ l _ _ rs _ hl0 hm hr0 hmr).mono ?_
    rw [h1]
    rintro e w1 ⟨rfl, hb1⟩
    have hB1 := hB.trans (hb1.mono hB.size)
    obtain ⟨r0, r1, r2, r3, rl⟩ := hbx.below hb1
    have hl1 := (hl0.below hb1).more hb1.size
    have hr1 := (hr0.below hb1).more hb1.size
    go_wp2_with fail
    refine (deciding_any _ _ _ _ _ l _ _ rs _ hl1 hr1 ha.1 ha.2).mono ?_
    generalize decR made l (forS rs series) = R at *
    generalize (decD made l (forS rs series)) = D at *
    rintro e w2 ⟨rfl, hb2⟩
    have hB2 := hB1.trans (hb2.mono hB1.size)
    by_cases h0 : 0 ≤ D
    · have h00 : ¬ D < 0 := by omega
      have ht : top0 D = D := by unfold top0; omega
      have hp : posB D = true := by unfold posB; simpa using h0
      rw [if_pos h0, decide_eq_true h0] at Hv
      skip
      go_wp2_with fail
      go_ret2
      exact ⟨by rw [Hv.out.1, Hv.out.2]; rfl, blw_alloc hB2 _⟩
    · have h00 : D < 0 := by omega
      have ht : top0 D = 0 := by unfold top0; omega
      have hp : posB D = false := by unfold posB; simpa using h0
      rw [if_neg h0, decide_eq_false h0] at Hv
      go_wp2_with fail
      go_ret2
      exact ⟨by rw [Hv.out.1, Hv.out.2]; rfl, blw_alloc hB2 _⟩

set_option maxHeartbeats 2000000 in
theorem c_impl_DecidingRule (id series made : Int) (A : Option Addr) (c : Nat) (l : List Ev) (A' : Option Addr) (c' : Nat) (rs : List RuleD) (w : World) (hl : Ls w w.heap.size encEv 2 A l) (hm : l.length ≤ 1048576) (hr : Ls w w.heap.size encRule 4 A' rs) (hmr : rs.length ≤ 1048576) :
    Calls Try.prog 41 #[.agg #[.int .i64 id, .int .i64 series, .int .i64 made, .slice A l.length c], .slice A' rs.length c'] w fun e w' => e = .returned (.tuple #[.agg #[.int .i64 (decRF id series made l rs).s, .int .i64 (decRF id series made l rs).e, .int .i64 (decRF id series made l rs).d, .int .i64 (decRF id series made l rs).a], .bool (decBF id series made l rs)]) ∧ Below w.heap.size w w' := by
  have hl0 := ((hl.alloc (Nat.le_refl _) (.cells #[.int .i64 id, .int .i64 series, .int .i64 made, .slice A l.length c] 30)).alloc (by simp) (.cells (cellsR rule0) 62)).more (B' := ((w.alloc (.cells #[.int .i64 id, .int .i64 series, .int .i64 made, .slice A l.length c] 30)).alloc (.cells (cellsR rule0) 62)).heap.size) (by simp; omega)
  have hr0 := ((hr.alloc (Nat.le_refl _) (.cells #[.int .i64 id, .int .i64 series, .int .i64 made, .slice A l.length c] 30)).alloc (by simp) (.cells (cellsR rule0) 62)).more (B' := ((w.alloc (.cells #[.int .i64 id, .int .i64 series, .int .i64 made, .slice A l.length c] 30)).alloc (.cells (cellsR rule0) 62)).heap.size) (by simp; omega)
  have hbx := (RecBox.new w id series made A l.length c 30).below (blw_alloc (Below.refl _ _) (.cells (cellsR rule0) 62))
  have hB := blw_alloc (blw_alloc (Below.refl w.heap.size w) (.cells #[.int .i64 id, .int .i64 series, .int .i64 made, .slice A l.length c] 30)) (.cells (cellsR rule0) 62)
  have hz : Blk ((w.alloc (.cells #[.int .i64 id, .int .i64 series, .int .i64 made, .slice A l.length c] 30)).alloc (.cells (cellsR rule0) 62)) (w.heap.size + 1) 62 (cellsR rule0) := by
    have h := Blk.new (w.alloc (.cells #[.int .i64 id, .int .i64 series, .int .i64 made, .slice A l.length c] 30)) 62 (cellsR rule0)
    simpa using h
  cases h1 : askB id series made l rs
  · have Hv : Hid (decRF id series made l rs = rule0 ∧ decBF id series made l rs = false) := by simp [Hid, decRF, decBF, h1]
    go_enter Try.func41, Try.ntmps41
    go_wp2_with fail
    change Calls Try.prog 74 _ ((w.alloc (.cells #[.int .i64 id, .int .i64 series, .int .i64 made, .slice A l.length c] 30)).alloc (.cells (cellsR rule0) 62)) _
    generalize ((w.alloc (.cells #[.int .i64 id, .int .i64 series, .int .i64 made, .slice A l.length c] 30)).alloc (.cells (cellsR rule0) 62)) = W0 at *
    refine (areBoth_any _ _ _ _ _ l _ _ rs _ hl0 hm hr0 hmr).mono ?_
    rw [h1]
    rintro e w1 ⟨rfl, hb1⟩
    obtain ⟨z0, z1, z2, z3, y0, y1, y2, y3, yl⟩ := (hz.below hb1 hz.lt).cellsR
    have hB1 := hB.trans (hb1.mono hB.size)
    go_wp2_with fail
    refine bodyPost_ret (v := .tuple #[.agg #[.int .i64 0, .int .i64 0, .int .i64 0, .int .i64 0], .bool false]) (by simp [results, Try.results41, go_sem, yl, z0, z1, z2, z3]) rfl ⟨?_, ?_⟩
    · rw [Hv.out.1, Hv.out.2]; rfl
    · exact ((((hB1.setCell (by simp) _).setCell (by simp) _).setCell (by simp) _).setCell (by simp) _)
  · have ha : recB id series made l = true ∧ schedB rs = true := by simpa [askB] using h1
    have Hv : Hid (decRF id series made l rs = decR made l (forS rs series) ∧ decBF id series made l rs = posB (decD made l (forS rs series))) := by simp [Hid, decRF, decBF, posB, h1]
    go_enter Try.func41, Try.ntmps41
    go_wp2_with fail
    change Calls Try.prog 74 _ ((w.alloc (.cells #[.int .i64 id, .int .i64 series, .int .i64 made, .slice A l.length c] 30)).alloc (.cells (cellsR rule0) 62)) _
    generalize ((w.alloc (.cells #[.int .i64 id, .int .i64 series, .int .i64 made, .slice A l.length c] 30)).alloc (.cells (cellsR rule0) 62)) = W0 at *
    refine (areBoth_any _ _ _ _ _ l _ _ rs _ hl0 hm hr0 hmr).mono ?_
    rw [h1]
    rintro e w1 ⟨rfl, hb1⟩
    have hB1 := hB.trans (hb1.mono hB.size)
    obtain ⟨r0, r1, r2, r3, rl⟩ := hbx.below hb1
    have hl1 := (hl0.below hb1).more hb1.size
    have hr1 := (hr0.below hb1).more hb1.size
    have hz1 := hz.below hb1 hz.lt
    go_wp2_with fail
    refine (deciding_any _ _ _ _ _ l _ _ rs _ hl1 hr1 ha.1 ha.2).mono ?_
    generalize decR made l (forS rs series) = R at *
    generalize (decD made l (forS rs series)) = D at *
    rintro e w2 ⟨rfl, hb2⟩
    have hB2 := hB1.trans (hb2.mono hB1.size)
    obtain ⟨z0, z1, z2, z3, y0, y1, y2, y3, yl⟩ := (hz1.below hb2 hz1.lt).cellsR
    have yl2 : w.heap.size + 1 < w2.heap.size + 1 := by omega
    by_cases h0 : 0 ≤ D
    · have h00 : ¬ D < 0 := by omega
      have hp : posB D = true := by unfold posB; simpa using h0
      go_wp2_with fail
      refine bodyPost_ret (v := .tuple #[.agg #[.int .i64 R.s, .int .i64 R.e, .int .i64 R.d, .int .i64 R.a], .bool true]) (by simp [results, Try.results41, go_sem, yl, yl2, z0, z1, z2, z3, h00]) rfl ⟨?_, ?_⟩
      · rw [Hv.out.1, Hv.out.2, hp]
      · exact blw_alloc (Below.set4 hB2 (Nat.le_succ _) _ _ _ _) _
    · have h00 : D < 0 := by omega
      have hp : posB D = false := by unfold posB; simpa using h0
      go_wp2_with fail
      refine bodyPost_ret (v := .tuple #[.agg #[.int .i64 R.s, .int .i64 R.e, .int .i64 R.d, .int .i64 R.a], .bool false]) (by simp [results, Try.results41, go_sem, yl, yl2, z0, z1, z2, z3, h00]) rfl ⟨?_, ?_⟩
      · rw [Hv.out.1, Hv.out.2, hp]
      · exact blw_alloc (Below.set4 hB2 (Nat.le_succ _) _ _ _ _) _

def leB (d day : Int) : Bool := decide (0 ≤ d) && decide (d ≤ day)

set_option maxHeartbeats 2000000 in
theorem l6Due_any (id series made : Int) (A : Option Addr) (c : Nat) (l : List Ev) (A' : Option Addr) (c' : Nat) (rs : List RuleD) (day : Int) (w : World) (hl : Ls w w.heap.size encEv 2 A l) (hr : Ls w w.heap.size encRule 4 A' rs) (ha1 : recB id series made l = true) (ha2 : schedB rs = true) :
    Calls Try.prog 77 #[.agg #[.int .i64 id, .int .i64 series, .int .i64 made, .slice A l.length c], .slice A' rs.length c', .int .i64 day] w fun e w' => e = .returned (.bool (leB (decD made l (forS rs series)) day)) ∧ Below w.heap.size w w' := by
  have hl0 := (hl.alloc (Nat.le_refl _) (.cells #[.int .i64 id, .int .i64 series, .int .i64 made, .slice A l.length c] 30)).more (B' := (w.alloc (.cells #[.int .i64 id, .int .i64 series, .int .i64 made, .slice A l.length c] 30)).heap.size) (by simp)
  have hr0 := (hr.alloc (Nat.le_refl _) (.cells #[.int .i64 id, .int .i64 series, .int .i64 made, .slice A l.length c] 30)).more (B' := (w.alloc (.cells #[.int .i64 id, .int .i64 series, .int .i64 made, .slice A l.length c] 30)).heap.size) (by simp)
  have hbx := RecBox.new w id series made A l.length c 30
  have hB := blw_alloc (Below.refl w.heap.size w) (.cells #[.int .i64 id, .int .i64 series, .int .i64 made, .slice A l.length c] 30)
  go_enter Try.func77, Try.ntmps77
  go_wp2_with fail
  generalize (w.alloc (.cells #[.int .i64 id, .int .i64 series, .int .i64 made, .slice A l.length c] 30)) = W0 at *
  refine (l6Deciding_any _ _ _ _ _ l _ _ rs _ hl0 hr0 ha1 ha2).mono ?_
  generalize decR made l (forS rs series) = R
  generalize hD : decD made l (forS rs series) = D
  have HD := Lib.hid hD
  clear hD
  rintro e w2 ⟨rfl, hb2⟩
  go_wp2_with (go_at_call 69; refine (l1In_any _ _ _ _).mono ?_; rintro e w3 ⟨rfl, rfl⟩)
  all_goals
    go_ret
    exact ⟨ret_bool (by rw [HD.out]; rfl), blw_alloc (hB.trans (hb2.mono hB.size)) _⟩

set_option maxHeartbeats 2000000 in
theorem c_spec_IsDue (id series made : Int) (A : Option Addr) (c : Nat) (l : List Ev) (A' : Option Addr) (c' : Nat) (rs : List RuleD) (day : Int) (w : World) (hl : Ls w w.heap.size encEv 2 A l) (hm : l.length ≤ 1048576) (hr : Ls w w.heap.size encRule 4 A' rs) (hmr : rs.length ≤ 1048576) :
    Calls Try.prog 46 #[.agg #[.int .i64 id, .int .i64 series, .int .i64 made, .slice A l.length c], .slice A' rs.length c', .int .i64 day] w fun e w' => e = .returned (.tuple #[.bool (isDueF id series made l rs day), .bool (isDueB id series made l rs day)]) ∧ Below w.heap.size w w' := by
  have hl0 := (hl.alloc (Nat.le_refl _) (.cells #[.int .i64 id, .int .i64 series, .int .i64 made, .slice A l.length c] 30)).more (B' := (w.alloc (.cells #[.int .i64 id, .int .i64 series, .int .i64 made, .slice A l.length c] 30)).heap.size) (by simp)
  have hr0 := (hr.alloc (Nat.le_refl _) (.cells #[.int .i64 id, .int .i64 series, .int .i64 made, .slice A l.length c] 30)).more (B' := (w.alloc (.cells #[.int .i64 id, .int .i64 series, .int .i64 made, .slice A l.length c] 30)).heap.size) (by simp)
  have hbx := RecBox.new w id series made A l.length c 30
  have hB := blw_alloc (Below.refl w.heap.size w) (.cells #[.int .i64 id, .int .i64 series, .int .i64 made, .slice A l.length c] 30)
  cases h1 : askB id series made l rs
  · have Hv : Hid (isDueF id series made l rs day = false ∧ isDueB id series made l rs day = false) := by simp [Hid, isDueF, isDueB, h1]
    go_enter Try.func46, Try.ntmps46
    go_wp2_with (go_at_call 71; refine (l6Asked_any _ _ _ _ _ l _ _ rs _ hl0 hm hr0 hmr).mono ?_; rw [h1]; rintro e w1 ⟨rfl, hb1⟩)
    go_ret2
    exact ⟨by rw [Hv.out.1, Hv.out.2]; rfl, hB.trans (hb1.mono hB.size)⟩
  · have ha : recB id series made l = true ∧ schedB rs = true := by simpa [askB] using h1
    cases hd : (decide (0 ≤ day) && decide (day ≤ 20000))
    · have Hv : Hid (isDueF id series made l rs day = false ∧ isDueB id series made l rs day = false) := by
        unfold Hid isDueF isDueB
        rw [hd]
        simp
      go_enter Try.func46, Try.ntmps46
      go_wp2_with (first | (go_at_call 71; refine (l6Asked_any _ _ _ _ _ l _ _ rs _ hl0 hm hr0 hmr).mono ?_; rw [h1]; rintro e w1 ⟨rfl, hb1⟩) | (go_at_call 76; refine (l2Day_any _ _).mono ?_; rw [hd]; rintro e w2 ⟨rfl, rfl⟩))
      go_ret2
      exact ⟨by rw [Hv.out.1, Hv.out.2]; rfl, hB.trans (hb1.mono hB.size)⟩
    · have Hv : Hid (isDueF id series made l rs day = (decide (0 ≤ (decD made l (forS rs series))) && decide ((decD made l (forS rs series)) ≤ day)) ∧ isDueB id series made l rs day = true) := by
        unfold Hid isDueF isDueB
        rw [hd, h1]
        simp
      go_enter Try.func46, Try.ntmps46
      go_wp2_with fail
      generalize (w.alloc (.cells #[.int .i64 id, .int .i64 series, .int .i64 made, .slice A l.length c] 30)) = W0 at *
      refine (l6Asked_any _ _ _ _ _ l _ _ rs _ hl0 hm hr0 hmr).mono ?_
      rw [h1]
      rintro e w1 ⟨rfl, hb1⟩
      have hB1 := hB.trans (hb1.mono hB.size)
      obtain ⟨r0, r1, r2, r3, rl⟩ := hbx.below hb1
      have hl1 := (hl0.below hb1).more hb1.size
      have hr1 := (hr0.below hb1).more hb1.size
      go_wp2_with fail
      refine (l2Day_any _ _).mono ?_
      rw [hd]
      rintro e w2 ⟨rfl, rfl⟩
      go_wp2_with fail
      refine (l6Due_any _ _ _ _ _ l _ _ rs _ _ hl1 hr1 ha.1 ha.2).mono ?_
      generalize (decD made l (forS rs series)) = D at *
      rintro e w2 ⟨rfl, hb2⟩
      have hB2 := hB1.trans (hb2.mono hB1.size)
      have Hv2 : Hid (isDueF id series made l rs day = leB D day ∧ isDueB id series made l rs day = true) := Hv.out
      clear Hv
      go_wp2_with fail
      go_ret2
      exact ⟨by rw [Hv2.out.1, Hv2.out.2]; rfl, hB2⟩

set_option maxHeartbeats 2000000 in
theorem c_impl_IsDue (id series made : Int) (A : Option Addr) (c : Nat) (l : List Ev) (A' : Option Addr) (c' : Nat) (rs : List RuleD) (day : Int) (w : World) (hl : Ls w w.heap.size encEv 2 A l) (hm : l.length ≤ 1048576) (hr : Ls w w.heap.size encRule 4 A' rs) (hmr : rs.length ≤ 1048576) :
    Calls Try.prog 47 #[.agg #[.int .i64 id, .int .i64 series, .int .i64 made, .slice A l.length c], .slice A' rs.length c', .int .i64 day] w fun e w' => e = .returned (.tuple #[.bool (isDueF id series made l rs day), .bool (isDueB id series made l rs day)]) ∧ Below w.heap.size w w' := by
  have hl0 := (hl.alloc (Nat.le_refl _) (.cells #[.int .i64 id, .int .i64 series, .int .i64 made, .slice A l.length c] 30)).more (B' := (w.alloc (.cells #[.int .i64 id, .int .i64 series, .int .i64 made, .slice A l.length c] 30)).heap.size) (by simp)
  have hr0 := (hr.alloc (Nat.le_refl _) (.cells #[.int .i64 id, .int .i64 series, .int .i64 made, .slice A l.length c] 30)).more (B' := (w.alloc (.cells #[.int .i64 id, .int .i64 series, .int .i64 made, .slice A l.length c] 30)).heap.size) (by simp)
  have hbx := RecBox.new w id series made A l.length c 30
  have hB := blw_alloc (Below.refl w.heap.size w) (.cells #[.int .i64 id, .int .i64 series, .int .i64 made, .slice A l.length c] 30)
  cases h1 : askB id series made l rs
  · have Hv : Hid (isDueF id series made l rs day = false ∧ isDueB id series made l rs day = false) := by simp [Hid, isDueF, isDueB, h1]
    go_enter Try.func47, Try.ntmps47
    go_wp2_with (go_at_call 74; refine (areBoth_any _ _ _ _ _ l _ _ rs _ hl0 hm hr0 hmr).mono ?_; rw [h1]; rintro e w1 ⟨rfl, hb1⟩)
    go_ret2
    exact ⟨by rw [Hv.out.1, Hv.out.2]; rfl, hB.trans (hb1.mono hB.size)⟩
  · have ha : recB id series made l = true ∧ schedB rs = true := by simpa [askB] using h1
    cases hd : (decide (0 ≤ day) && decide (day ≤ 20000))
    · have Hv : Hid (isDueF id series made l rs day = false ∧ isDueB id series made l rs day = false) := by
        unfold Hid isDueF isDueB
        rw [hd]
        simp
      go_enter Try.func47, Try.ntmps47
      go_wp2_with (first | (go_at_call 74; refine (areBoth_any _ _ _ _ _ l _ _ rs _ hl0 hm hr0 hmr).mono ?_; rw [h1]; rintro e w1 ⟨rfl, hb1⟩) | (go_at_call 78; refine (isDay_any _ _).mono ?_; rw [hd]; rintro e w2 ⟨rfl, rfl⟩))
      go_ret2
      exact ⟨by rw [Hv.out.1, Hv.out.2]; rfl, hB.trans (hb1.mono hB.size)⟩
    · have Hv : Hid (isDueF id series made l rs day = (decide (0 ≤ (decD made l (forS rs series))) && decide ((decD made l (forS rs series)) ≤ day)) ∧ isDueB id series made l rs day = true) := by
        unfold Hid isDueF isDueB
        rw [hd, h1]
        simp
      go_enter Try.func47, Try.ntmps47
      go_wp2_with fail
      generalize (w.alloc (.cells #[.int .i64 id, .int .i64 series, .int .i64 made, .slice A l.length c] 30)) = W0 at *
      refine (areBoth_any _ _ _ _ _ l _ _ rs _ hl0 hm hr0 hmr).mono ?_
      rw [h1]
      rintro e w1 ⟨rfl, hb1⟩
      have hB1 := hB.trans (hb1.mono hB.size)
      obtain ⟨r0, r1, r2, r3, rl⟩ := hbx.below hb1
      have hl1 := (hl0.below hb1).more hb1.size
      have hr1 := (hr0.below hb1).more hb1.size
      go_wp2_with fail
      refine (isDay_any _ _).mono ?_
      rw [hd]
      rintro e w2 ⟨rfl, rfl⟩
      go_wp2_with fail
      refine (deciding_any _ _ _ _ _ l _ _ rs _ hl1 hr1 ha.1 ha.2).mono ?_
      generalize decR made l (forS rs series) = R at *
      generalize (decD made l (forS rs series)) = D at *
      rintro e w2 ⟨rfl, hb2⟩
      have hB2 := hB1.trans (hb2.mono hB1.size)
      by_cases h0 : 0 ≤ D
      · have ht : top0 D = D := by unfold top0; omega
        have hp : posB D = true := by unfold posB; simpa using h0
        have Hv2 : Hid (isDueF id series made l rs day = decide (D ≤ day) ∧ isDueB id series made l rs day = true) := by
          have := Hv.out
          rw [decide_eq_true h0, Bool.true_and] at this
          exact this
        clear Hv
        go_wp2_with fail
        go_ret2
        exact ⟨by rw [Hv2.out.1, Hv2.out.2]; rfl, blw_alloc hB2 _⟩
      · have hp : posB D = false := by unfold posB; simpa using h0
        have Hv2 : Hid (isDueF id series made l rs day = false ∧ isDueB id series made l rs day = true) := by
          have := Hv.out
          rw [decide_eq_false h0, Bool.false_and] at this
          exact this
        clear Hv
        go_wp2_with fail
        go_ret2
        exact ⟨by rw [Hv2.out.1, Hv2.out.2]; rfl, blw_alloc hB2 _⟩


end Go.Proofs.Ytjbklopkginegaa
