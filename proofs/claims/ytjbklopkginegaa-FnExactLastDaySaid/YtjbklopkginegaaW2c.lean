/- Contracts of LastDay (l2_records.go). -/
import Derived.Test.YtjbklopkginegaaW2b
namespace Go.Proofs.Ytjbklopkginegaa
set_option linter.unusedVariables false
set_option linter.unusedSimpArgs false
open Go.RowKit
attribute [local go_sem] Aft.cell

def lastK (made : Int) (l : List Ev) (k : Nat) : Int := (l.take k).foldl (fun m e => max m e.2) made
theorem lastK_succ {made : Int} {l : List Ev} {k : Nat} (h : k < l.length) : lastK made l (k + 1) = max (lastK made l k) l[k].2 := by
  unfold lastK
  rw [List.take_succ_eq_append_getElem h, List.foldl_append]
  rfl
def lastF (id series made : Int) (l : List Ev) : Int := if recB id series made l then lastK made l l.length else 0

set_option maxHeartbeats 400000 in
theorem l1Most2_any (a b : Int) (w : World) :
    Calls Try.prog 53 #[.int .i64 a, .int .i64 b] w fun e w' => e = .returned (.int .i64 (max a b)) ∧ w = w' := by
  by_cases h : a > b
  · go_enter Try.func53, Try.ntmps53
    go_wp2
    go_ret
    exact ⟨ret_int (by omega), rfl⟩
  · go_enter Try.func53, Try.ntmps53
    go_wp2
    go_ret
    exact ⟨ret_int (by omega), rfl⟩

set_option maxHeartbeats 1000000 in
theorem c_spec_LastDay (id series made : Int) (A : Option Addr) (c : Nat) (l : List Ev) (w : World) (hl : Ls w w.heap.size encEv 2 A l) (hm : l.length ≤ 1048576) :
    Calls Try.prog 14 #[.agg #[.int .i64 id, .int .i64 series, .int .i64 made, .slice A l.length c]] w fun e w' => e = .returned (.tuple #[.int .i64 (lastF id series made l), .bool (recB id series made l)]) ∧ Below w.heap.size w w' := by
  have hm' : l.length ≤ 9223372036854775807 := by omega
  have hlen : (l.length : Int) ≤ 1048576 := by omega
  have hl0 := (hl.alloc (Nat.le_refl _) (.cells #[.int .i64 id, .int .i64 series, .int .i64 made, .slice A l.length c] 30)).more (B' := (w.alloc (.cells #[.int .i64 id, .int .i64 series, .int .i64 made, .slice A l.length c] 30)).heap.size) (by simp)
  have hbx := RecBox.new w id series made A l.length c 30
  have hB := blw_alloc (Below.refl w.heap.size w) (.cells #[.int .i64 id, .int .i64 series, .int .i64 made, .slice A l.length c] 30)
  cases h1 : recB id series made l
  · have Hv : Hid (lastF id series made l = 0) := by simp [Hid, lastF, h1]
    go_enter Try.func14, Try.ntmps14
    go_wp2_with fail
    generalize (w.alloc (.cells #[.int .i64 id, .int .i64 series, .int .i64 made, .slice A l.length c] 30)) = W0 at *
    refine (l2Record_any _ _ _ _ _ l _ hl0 hm').mono ?_
    rw [h1]
    rintro e w1 ⟨rfl, hb1⟩
    go_wp2_with fail
    go_ret2
    exact ⟨by rw [Hv.out]; rfl, hB.trans (hb1.mono hB.size)⟩
  · have Hv : Hid (lastF id series made l = lastK made l l.length) := by simp [Hid, lastF, h1]
    go_enter Try.func14, Try.ntmps14
    go_wp2_with fail
    generalize (w.alloc (.cells #[.int .i64 id, .int .i64 series, .int .i64 made, .slice A l.length c] 30)) = W0 at *
    refine (l2Record_any _ _ _ _ _ l _ hl0 hm').mono ?_
    rw [h1]
    rintro e w1 ⟨rfl, hb1⟩
    have hB1 := hB.trans (hb1.mono hB.size)
    have hl1 := (hl0.below hb1).more hb1.size
    have hbx1 := hbx.below hb1
    have r2 := hbx1.c2
    clear hl0 hl
    go_wp2_with fail
    go_loopw [4, 5] (fun v i wr => ∃ k : Nat, k ≤ l.length ∧ i = .int .i64 k ∧ v = .int .i64 (lastK made l k) ∧ Below w1.heap.size w1 wr) (fun _ i _ => l.length - (intOf i).toNat)
    case atStart => exact ⟨0, Nat.zero_le _, rfl, by simp [lastK], Below.refl _ _⟩
    case round =>
      clear r2
      obtain ⟨k, hk, rfl, rfl, hb⟩ := hrel
      obtain ⟨r0, r1, r2, r3, rl⟩ := hbx1.below hb
      by_cases hlt : k < l.length
      · obtain ⟨b, off, rfl, hbb, hc0, hc1⟩ := (hl1.below hb).at_Event hlt
        have HS := Lib.hid (lastK_succ (made := made) hlt)
        go_wp2_with (go_at_call 53; refine (l1Most2_any _ _ _).mono ?_; rintro e w' ⟨rfl, rfl⟩)
        go_roundw
        case rel => exact ⟨k + 1, by omega, by go_num, by rw [HS.out], hb⟩
        case measure => simp [intOf]; omega
      · have hkk : k = l.length := by omega
        subst hkk
        go_wp2_with fail
        go_ret2
        exact ⟨by rw [Hv.out]; rfl, hB1.trans (hb.mono hB1.size)⟩

set_option maxHeartbeats 1000000 in
theorem c_impl_LastDay (id series made : Int) (A : Option Addr) (c : Nat) (l : List Ev) (w : World) (hl : Ls w w.heap.size encEv 2 A l) (hm : l.length ≤ 1048576) :
    Calls Try.prog 16 #[.agg #[.int .i64 id, .int .i64 series, .int .i64 made, .slice A l.length c]] w fun e w' => e = .returned (.tuple #[.int .i64 (lastF id series made l), .bool (recB id series made l)]) ∧ Below w.heap.size w w' := by
  have hm' : l.length ≤ 9223372036854775807 := by omega
  have hlen : (l.length : Int) ≤ 1048576 := by omega
  have hl0 := (hl.alloc (Nat.le_refl _) (.cells #[.int .i64 id, .int .i64 series, .int .i64 made, .slice A l.length c] 30)).more (B' := (w.alloc (.cells #[.int .i64 id, .int .i64 series, .int .i64 made, .slice A l.length c] 30)).heap.size) (by simp)
  have hbx := RecBox.new w id series made A l.length c 30
  have hB := blw_alloc (Below.refl w.heap.size w) (.cells #[.int .i64 id, .int .i64 series, .int .i64 made, .slice A l.length c] 30)
  cases h1 : recB id series made l
  · have Hv : Hid (lastF id series made l = 0) := by simp [Hid, lastF, h1]
    go_enter Try.func16, Try.ntmps16
    go_wp2_with fail
    generalize (w.alloc (.cells #[.int .i64 id, .int .i64 series, .int .i64 made, .slice A l.length c] 30)) = W0 at *
    refine (IsRecord_any _ _ _ _ _ l _ hl0 hm').mono ?_
    rw [h1]
    rintro e w1 ⟨rfl, hb1⟩
    go_wp2_with fail
    go_ret2
    exact ⟨by rw [Hv.out]; rfl, hB.trans (hb1.mono hB.size)⟩
  · have Hv : Hid (lastF id series made l = lastK made l l.length) := by simp [Hid, lastF, h1]
    go_enter Try.func16, Try.ntmps16
    go_wp2_with fail
    generalize (w.alloc (.cells #[.int .i64 id, .int .i64 series, .int .i64 made, .slice A l.length c] 30)) = W0 at *
    refine (IsRecord_any _ _ _ _ _ l _ hl0 hm').mono ?_
    rw [h1]
    rintro e w1 ⟨rfl, hb1⟩
    have hB1 := hB.trans (hb1.mono hB.size)
    have hl1 := (hl0.below hb1).more hb1.size
    have hbx1 := hbx.below hb1
    have r2 := hbx1.c2
    have r3 := hbx1.c3
    clear hl0 hl
    go_wp2_with fail
    go_loopw [4, 15] (fun v i wr => ∃ k : Nat, k ≤ l.length ∧ i = .int .i64 k ∧ v = .int .i64 (lastK made l k) ∧ Below w1.heap.size w1 wr) (fun _ i _ => l.length - (intOf i).toNat)
    case atStart => exact ⟨0, Nat.zero_le _, rfl, by simp [lastK], Below.refl _ _⟩
    case round =>
      clear r2 r3
      obtain ⟨k, hk, rfl, rfl, hb⟩ := hrel
      by_cases hlt : k < l.length
      · obtain ⟨b, off, rfl, hbb, hc0, hc1⟩ := (hl1.below hb).at_Event hlt
        have HS := Lib.hid (lastK_succ (made := made) hlt)
        go_wp2_with fail
        go_roundw
        case rel => exact ⟨k + 1, by omega, by go_num, by rw [HS.out]; congr 1; split <;> omega, blw_alloc hb _⟩
        case measure => simp [intOf]; omega
      · have hkk : k = l.length := by omega
        subst hkk
        go_wp2_with fail
        go_ret2
        exact ⟨by rw [Hv.out]; rfl, hB1.trans (hb.mono hB1.size)⟩

end Go.Proofs.Ytjbklopkginegaa
