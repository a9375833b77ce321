/- Contracts of the functions of l2_records.go. -/
import Derived.Test.YtopfcfedcmpamaaDoorA1
import Derived.Test.YtopfcfedcmpamaaDoorD2
namespace Go.Proofs.YtopfcfedcmpamaaDoor
set_option linter.unusedVariables false
set_option linter.unusedSimpArgs false
open Go.RowKit
attribute [local go_sem] Aft.cell

set_option maxHeartbeats 400000 in
theorem IsEvent_any (k d : Int) (w : World) :
    Calls Tryd.prog 51 #[.agg #[.int .i64 k, .int .i64 d]] w fun e w' => e = .returned (.bool (evB k d)) ∧ Below w.heap.size w w' := by
  go_enter Tryd.func51, Tryd.ntmps51
  go_wp2_with (first | (go_at_call 48; refine (within_any _ _ _ _).mono ?_; rintro e w' ⟨rfl, rfl⟩) | (go_at_call 50; refine (isDay_any _ _).mono ?_; rintro e w' ⟨rfl, rfl⟩))
  · go_ret
    exact ⟨by simp [evB, *], (Below.refl _ _).alloc (Nat.le_refl _) _⟩
  · go_ret
    exact ⟨by simp [evB, *], (Below.refl _ _).alloc (Nat.le_refl _) _⟩


set_option maxHeartbeats 400000 in
theorem isId_any (x : Int) (w : World) :
    Calls Tryd.prog 49 #[.int .i64 x] w fun e w' => e = .returned (.bool (decide (1 ≤ x) && decide (x ≤ 99))) ∧ w = w' := by
  go_enter Tryd.func49, Tryd.ntmps49
  go_wp2_with (go_at_call 48; refine (within_any _ _ _ _).mono ?_; rintro e w' ⟨rfl, rfl⟩)
  go_ret
  exact ⟨rfl, rfl⟩

set_option maxHeartbeats 400000 in
theorem IsRecord_any (id series made : Int) (A : Option Addr) (c : Nat) (l : List Ev) (w : World) (hl : Ls w w.heap.size encEv 2 A l) (hm : l.length ≤ 9223372036854775807) :
    Calls Tryd.prog 27 #[.agg #[.int .i64 id, .int .i64 series, .int .i64 made, .slice A l.length c]] w fun e w' => e = .returned (.bool (recB id series made l)) ∧ Below w.heap.size w w' := by
  go_enter Tryd.func27, Tryd.ntmps27
  go_wp2_with (first | (go_at_call 48; refine (within_any _ _ _ _).mono ?_; rintro e w' ⟨rfl, rfl⟩) | (go_at_call 50; refine (isDay_any _ _).mono ?_; rintro e w' ⟨rfl, rfl⟩) | (go_at_call 49; refine (isId_any _ _).mono ?_; rintro e w' ⟨rfl, rfl⟩))
  all_goals first | (go_ret; exact ⟨ret_bool (recB_no (by omega)).symm, (Below.refl _ _).alloc (Nat.le_refl _) _⟩) | skip
  have hbnd : 1 ≤ id ∧ id ≤ 999 ∧ 1 ≤ series ∧ series ≤ 99 ∧ 0 ≤ made ∧ made ≤ 20000 ∧ (l.length : Int) ≤ 6 := by omega
  have hlen : (l.length : Int) ≤ 6 := by omega
  have hB := (Below.refl w.heap.size w).alloc (Nat.le_refl _) (.cells #[.int .i64 id, .int .i64 series, .int .i64 made, .slice A l.length c] 24)
  have hl0 := hl.alloc (Nat.le_refl _) (.cells #[.int .i64 id, .int .i64 series, .int .i64 made, .slice A l.length c] 24)
  have hr2 : (w.alloc (.cells #[.int .i64 id, .int .i64 series, .int .i64 made, .slice A l.length c] 24)).cell? ⟨w.heap.size, 2, none⟩ = some (.int .i64 made) := by simp
  have hr3 : (w.alloc (.cells #[.int .i64 id, .int .i64 series, .int .i64 made, .slice A l.length c] 24)).cell? ⟨w.heap.size, 3, none⟩ = some (.slice A l.length c) := by simp
  have hs : w.heap.size < (w.alloc (.cells #[.int .i64 id, .int .i64 series, .int .i64 made, .slice A l.length c] 24)).heap.size := by simp
  generalize (w.alloc (.cells #[.int .i64 id, .int .i64 series, .int .i64 made, .slice A l.length c] 24)) = W0 at *
  go_loopw [30] (fun i wr => ∃ k : Nat, k ≤ l.length ∧ i = .int .i64 k ∧ Below W0.heap.size W0 wr ∧ Hid (∀ j, j < k → evAtB made l j = true)) (fun i _ => l.length - (intOf i).toNat)
  case atStart => exact ⟨0, Nat.zero_le _, rfl, Below.refl _ _, fun j hj => absurd hj (Nat.not_lt_zero _)⟩
  case round =>
    obtain ⟨k, hk, rfl, hb, hall⟩ := hrel
    by_cases hlt : k < l.length
    · obtain ⟨b, off, rfl, hbb, hc0, hc1⟩ := hl0.ev hlt
      rw [← hb.cell (p := ⟨_, _, _⟩) (by simp; omega)] at hc0 hc1 hr2 hr3
      have hsz := hb.size
      have hs2 : w.heap.size < wr.heap.size := by omega
      have hs3 : w.heap.size < wr.heap.size + 1 := by omega
      have hs4 : b < wr.heap.size := by omega
      have hs5 : b < wr.heap.size + 1 := by omega
      have hcases := evAtB_cases (made := made) hlt
      rcases hcases with ⟨h1, hv⟩ | ⟨h1, h2, hv⟩ | ⟨h1, h2, h3, hv⟩ | ⟨h1, h2, h3, h4, hv⟩ | ⟨h1, h2, h3, h4, hv⟩
      iterate 2
        · have Hv := Lib.hid hv
          clear hv
          go_wp2_with fail
          refine wp_region_calm (by kernel_rfl) (by kernel_rfl) ?_
          repeat (go_big_quiet_step (first | (go_at_call 51; refine Calls.calm (IsEvent_any _ _ _))))
          refine wpQuiet_nil ?_
          rintro _ ⟨⟨w1, hb1⟩, rfl⟩
          go_wp2_with fail
          go_ret
          exact ⟨ret_bool (recB_bad k hlt Hv.out).symm, ((hB.trans (hb.mono (by omega))).alloc (by omega) _).trans (hb1.mono (by simp; omega))⟩
      · have Hv := Lib.hid hv
        clear hv
        go_wp2_with fail
        refine wp_region_calm (by kernel_rfl) (by kernel_rfl) ?_
        repeat (go_big_quiet_step (first | (go_at_call 51; refine Calls.calm (IsEvent_any _ _ _))))
        refine wpQuiet_nil ?_
        rintro _ ⟨⟨w1, hb1⟩, rfl⟩
        go_wp2_with fail
        go_roundw
        case rel => exact ⟨k + 1, by omega, by go_num, (hb.alloc (by omega) _).trans (hb1.mono (by simp; omega)), fun j hj => by rcases Nat.lt_succ_iff_lt_or_eq.1 hj with h | rfl; exact hall.out _ h; exact Hv.out⟩
        case measure => simp [intOf]; omega
      iterate 2
        · have Hv := Lib.hid hv
          clear hv
          obtain ⟨b', off', hbo, _, hcp, _⟩ := hl0.ev (i := k - 1) (by omega)
          cases hbo
          rw [← hb.cell (p := ⟨_, _, _⟩) (by simp; omega)] at hcp
          rw [kindAt_eq] at hcp
          have hk0 : 0 < k := by simpa using h3
          have hi1 : 1 ≤ (k : Int) := by omega
          have hi2 : (k : Int) - 1 < (l.length : Int) := by omega
          go_wp2_with fail
          refine wp_region_calm (by kernel_rfl) (by kernel_rfl) ?_
          repeat (go_big_quiet_step (first | (go_at_call 51; refine Calls.calm (IsEvent_any _ _ _))))
          refine wpQuiet_nil ?_
          rintro _ ⟨⟨w1, hb1⟩, rfl⟩
          go_wp2_with fail
          first
            | (go_ret; exact ⟨ret_bool (recB_bad k hlt Hv.out).symm, ((hB.trans (hb.mono (by omega))).alloc (by omega) _).trans (hb1.mono (by simp; omega))⟩)
            | (go_roundw
               case rel => exact ⟨k + 1, by omega, by go_num, (hb.alloc (by omega) _).trans (hb1.mono (by simp; omega)), fun j hj => by rcases Nat.lt_succ_iff_lt_or_eq.1 hj with h | rfl; exact hall.out _ h; exact Hv.out⟩
               case measure => simp [intOf]; omega)
    · have hkk : k = l.length := by omega
      subst hkk
      go_wp2_with fail
      go_ret
      exact ⟨ret_bool (recB_yes hbnd hall.out).symm, hB.trans (hb.mono (by omega))⟩


set_option maxHeartbeats 400000 in
theorem l2Event_any (k d : Int) (w : World) :
    Calls Tryd.prog 43 #[.agg #[.int .i64 k, .int .i64 d]] w fun e w' => e = .returned (.bool (evB k d)) ∧ Below w.heap.size w w' := by
  go_enter Tryd.func43, Tryd.ntmps43
  go_wp2_with (first | (go_at_call 41; refine (l1In_any _ _ _ _).mono ?_; rintro e w' ⟨rfl, rfl⟩) | (go_at_call 44; refine (l2Day_any _ _).mono ?_; rintro e w' ⟨rfl, rfl⟩))
  · go_ret
    exact ⟨by simp [evB, *], (Below.refl _ _).alloc (Nat.le_refl _) _⟩
  · go_ret
    exact ⟨by simp [evB, *], (Below.refl _ _).alloc (Nat.le_refl _) _⟩


set_option maxHeartbeats 400000 in
theorem l2Record_any (id series made : Int) (A : Option Addr) (c : Nat) (l : List Ev) (w : World) (hl : Ls w w.heap.size encEv 2 A l) (hm : l.length ≤ 9223372036854775807) :
    Calls Tryd.prog 22 #[.agg #[.int .i64 id, .int .i64 series, .int .i64 made, .slice A l.length c]] w fun e w' => e = .returned (.bool (recB id series made l)) ∧ Below w.heap.size w w' := by
  have hlen : (l.length : Int) ≤ 9223372036854775807 := by omega
  go_enter Tryd.func22, Tryd.ntmps22
  go_wp2_with fail
  have hB := blw_alloc (Below.refl w.heap.size w) (.cells #[.int .i64 id, .int .i64 series, .int .i64 made, .slice A l.length c] 24)
  have hl0 := hl.alloc (Nat.le_refl _) (.cells #[.int .i64 id, .int .i64 series, .int .i64 made, .slice A l.length c] 24)
  have hr0 : (w.alloc (.cells #[.int .i64 id, .int .i64 series, .int .i64 made, .slice A l.length c] 24)).cell? ⟨w.heap.size, 0, none⟩ = some (.int .i64 id) := by simp
  have hr1 : (w.alloc (.cells #[.int .i64 id, .int .i64 series, .int .i64 made, .slice A l.length c] 24)).cell? ⟨w.heap.size, 1, none⟩ = some (.int .i64 series) := by simp
  have hr2 : (w.alloc (.cells #[.int .i64 id, .int .i64 series, .int .i64 made, .slice A l.length c] 24)).cell? ⟨w.heap.size, 2, none⟩ = some (.int .i64 made) := by simp
  have hr3 : (w.alloc (.cells #[.int .i64 id, .int .i64 series, .int .i64 made, .slice A l.length c] 24)).cell? ⟨w.heap.size, 3, none⟩ = some (.slice A l.length c) := by simp
  have hs : w.heap.size < (w.alloc (.cells #[.int .i64 id, .int .i64 series, .int .i64 made, .slice A l.length c] 24)).heap.size := by simp
  generalize (w.alloc (.cells #[.int .i64 id, .int .i64 series, .int .i64 made, .slice A l.length c] 24)) = W0 at *
  go_loopw [3] (fun i wr => ∃ k : Nat, k ≤ l.length ∧ i = .int .i64 k ∧ Below W0.heap.size W0 wr ∧ Hid (∀ j, j < k → evAtB made l j = true)) (fun i _ => l.length - (intOf i).toNat)
  case atStart => exact ⟨0, Nat.zero_le _, rfl, Below.refl _ _, fun j hj => absurd hj (Nat.not_lt_zero _)⟩
  case round =>
    obtain ⟨k, hk, rfl, hb, hall⟩ := hrel
    rw [← hb.cell (p := ⟨_, _, _⟩) (by simp; omega)] at hr0 hr1 hr2 hr3
    by_cases hlt : k < l.length
    · obtain ⟨b, off, rfl, hbb, hc0, hc1⟩ := hl0.ev hlt
      rw [← hb.cell (p := ⟨_, _, _⟩) (by simp; omega)] at hc0 hc1
      have hsz := hb.size
      have hs2 : w.heap.size < wr.heap.size := by omega
      have hs3 : w.heap.size < wr.heap.size + 1 := by omega
      have hs4 : b < wr.heap.size := by omega
      have hs5 : b < wr.heap.size + 1 := by omega
      have hcases := evAtB_cases (made := made) hlt
      rcases hcases with ⟨h1, hv⟩ | ⟨h1, h2, hv⟩ | ⟨h1, h2, h3, hv⟩ | ⟨h1, h2, h3, h4, hv⟩ | ⟨h1, h2, h3, h4, hv⟩
      iterate 2
        · have Hv := Lib.hid hv
          clear hv
          go_wp2_with fail
          refine wp_region_calm (by kernel_rfl) (by kernel_rfl) ?_
          repeat (go_big_quiet_step (first | (go_at_call 43; refine Calls.calm (l2Event_any _ _ _))))
          refine wpQuiet_nil ?_
          rintro _ ⟨⟨w1, hb1⟩, rfl⟩
          go_wp2_with fail
          go_ret
          exact ⟨ret_bool (recB_bad k hlt Hv.out).symm, ((hB.trans (hb.mono (by omega))).alloc (by omega) _).trans (hb1.mono (by simp; omega))⟩
      · have Hv := Lib.hid hv
        clear hv
        go_wp2_with fail
        refine wp_region_calm (by kernel_rfl) (by kernel_rfl) ?_
        repeat (go_big_quiet_step (first | (go_at_call 43; refine Calls.calm (l2Event_any _ _ _))))
        refine wpQuiet_nil ?_
        rintro _ ⟨⟨w1, hb1⟩, rfl⟩
        go_wp2_with fail
        go_roundw
        case rel => exact ⟨k + 1, by omega, by go_num, (hb.alloc (by omega) _).trans (hb1.mono (by simp; omega)), fun j hj => by rcases Nat.lt_succ_iff_lt_or_eq.1 hj with h | rfl; exact hall.out _ h; exact Hv.out⟩
        case measure => simp [intOf]; omega
      iterate 2
        · have Hv := Lib.hid hv
          clear hv
          obtain ⟨b', off', hbo, _, hcp, _⟩ := hl0.ev (i := k - 1) (by omega)
          cases hbo
          rw [← hb.cell (p := ⟨_, _, _⟩) (by simp; omega)] at hcp
          rw [kindAt_eq] at hcp
          have hk0 : 0 < k := by simpa using h3
          have hi1 : 1 ≤ (k : Int) := by omega
          have hi2 : (k : Int) - 1 < (l.length : Int) := by omega
          go_wp2_with fail
          refine wp_region_calm (by kernel_rfl) (by kernel_rfl) ?_
          repeat (go_big_quiet_step (first | (go_at_call 43; refine Calls.calm (l2Event_any _ _ _))))
          refine wpQuiet_nil ?_
          rintro _ ⟨⟨w1, hb1⟩, rfl⟩
          go_wp2_with fail
          first
            | (go_ret; exact ⟨ret_bool (recB_bad k hlt Hv.out).symm, ((hB.trans (hb.mono (by omega))).alloc (by omega) _).trans (hb1.mono (by simp; omega))⟩)
            | (go_roundw
               case rel => exact ⟨k + 1, by omega, by go_num, (hb.alloc (by omega) _).trans (hb1.mono (by simp; omega)), fun j hj => by rcases Nat.lt_succ_iff_lt_or_eq.1 hj with h | rfl; exact hall.out _ h; exact Hv.out⟩
               case measure => simp [intOf]; omega)
    · have hkk : k = l.length := by omega
      subst hkk
      by_cases hbnd : 1 ≤ id ∧ id ≤ 999 ∧ 1 ≤ series ∧ series ≤ 99 ∧ 0 ≤ made ∧ made ≤ 20000 ∧ (l.length : Int) ≤ 6
      · go_wp2_with (first | (go_at_call 41; refine (l1In_any _ _ _ _).mono ?_; rintro e w' ⟨rfl, rfl⟩) | (go_at_call 44; refine (l2Day_any _ _).mono ?_; rintro e w' ⟨rfl, rfl⟩))
        all_goals
          go_ret
          exact ⟨ret_bool (Eq.trans (b := true) (by first | rfl | (simp; omega)) (recB_yes hbnd hall.out).symm), hB.trans (hb.mono (by omega))⟩
      · go_wp2_with (first | (go_at_call 41; refine (l1In_any _ _ _ _).mono ?_; rintro e w' ⟨rfl, rfl⟩) | (go_at_call 44; refine (l2Day_any _ _).mono ?_; rintro e w' ⟨rfl, rfl⟩))
        all_goals
          go_ret
          exact ⟨ret_bool (Eq.trans (b := false) (by first | rfl | (simp; omega)) (recB_no hbnd).symm), hB.trans (hb.mono (by omega))⟩



end Go.Proofs.YtopfcfedcmpamaaDoor
