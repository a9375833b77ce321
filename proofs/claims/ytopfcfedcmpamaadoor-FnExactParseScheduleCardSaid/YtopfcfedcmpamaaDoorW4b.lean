/- Contracts of the functions of l4_schedules.go that speak of lists of rules. -/
import Derived.Test.YtopfcfedcmpamaaDoorD4
import Derived.Test.YtopfcfedcmpamaaDoorV
import Derived.Test.YtopfcfedcmpamaaDoorHRule
import Derived.Deep.RegionHeld3
namespace Go.Proofs.YtopfcfedcmpamaaDoor
set_option linter.unusedVariables false
set_option linter.unusedSimpArgs false
open Go.RowKit
attribute [local go_sem] Aft.cell

set_option maxHeartbeats 1000000 in
theorem compareRules_any (s1 e1 d1 a1 s2 e2 d2 a2 : Int) (w : World) :
    Calls Tryd.prog 62 #[.agg #[.int .i64 s1, .int .i64 e1, .int .i64 d1, .int .i64 a1], .agg #[.int .i64 s2, .int .i64 e2, .int .i64 d2, .int .i64 a2]] w fun e w' => e = .returned (.int .i64 (cmp4 s1 e1 s2 e2)) ∧ Below w.heap.size w w' := by
  go_enter Tryd.func62, Tryd.ntmps62
  go_wp2_with fail
  have hbel := blw_alloc (blw_alloc (Below.refl w.heap.size w) (.cells #[.int .i64 s1, .int .i64 e1, .int .i64 d1, .int .i64 a1] 58)) (.cells #[.int .i64 s2, .int .i64 e2, .int .i64 d2, .int .i64 a2] 58)
  have c0 : ((w.alloc (.cells #[.int .i64 s1, .int .i64 e1, .int .i64 d1, .int .i64 a1] 58)).alloc (.cells #[.int .i64 s2, .int .i64 e2, .int .i64 d2, .int .i64 a2] 58)).cell? ⟨w.heap.size, 0, none⟩ = some (.int .i64 s1) := by simp [World.cell?_alloc_lt]
  have c1 : ((w.alloc (.cells #[.int .i64 s1, .int .i64 e1, .int .i64 d1, .int .i64 a1] 58)).alloc (.cells #[.int .i64 s2, .int .i64 e2, .int .i64 d2, .int .i64 a2] 58)).cell? ⟨w.heap.size, 1, none⟩ = some (.int .i64 e1) := by simp [World.cell?_alloc_lt]
  have c2 : ((w.alloc (.cells #[.int .i64 s1, .int .i64 e1, .int .i64 d1, .int .i64 a1] 58)).alloc (.cells #[.int .i64 s2, .int .i64 e2, .int .i64 d2, .int .i64 a2] 58)).cell? ⟨w.heap.size + 1, 0, none⟩ = some (.int .i64 s2) := World.cell?_alloc_at _ _ _ _ (by simp)
  have c3 : ((w.alloc (.cells #[.int .i64 s1, .int .i64 e1, .int .i64 d1, .int .i64 a1] 58)).alloc (.cells #[.int .i64 s2, .int .i64 e2, .int .i64 d2, .int .i64 a2] 58)).cell? ⟨w.heap.size + 1, 1, none⟩ = some (.int .i64 e2) := World.cell?_alloc_at _ _ _ _ (by simp)
  have hs : ((w.alloc (.cells #[.int .i64 s1, .int .i64 e1, .int .i64 d1, .int .i64 a1] 58)).alloc (.cells #[.int .i64 s2, .int .i64 e2, .int .i64 d2, .int .i64 a2] 58)).heap.size = w.heap.size + 1 + 1 := by simp
  generalize ((w.alloc (.cells #[.int .i64 s1, .int .i64 e1, .int .i64 d1, .int .i64 a1] 58)).alloc (.cells #[.int .i64 s2, .int .i64 e2, .int .i64 d2, .int .i64 a2] 58)) = W0 at *
  have hs0 : w.heap.size < W0.heap.size := by omega
  have hs1 : w.heap.size + 1 < W0.heap.size := by omega
  clear hs
  have hk : Hid (∀ W, Below W0.heap.size W0 W → W.cell? ⟨w.heap.size, 0, none⟩ = some (.int .i64 s1) ∧ W.cell? ⟨w.heap.size, 1, none⟩ = some (.int .i64 e1) ∧ W.cell? ⟨w.heap.size + 1, 0, none⟩ = some (.int .i64 s2) ∧ W.cell? ⟨w.heap.size + 1, 1, none⟩ = some (.int .i64 e2)) :=
    fun W hb => ⟨(hb.cell (p := ⟨_, _, _⟩) hs0).trans c0, (hb.cell (p := ⟨_, _, _⟩) hs0).trans c1, (hb.cell (p := ⟨_, _, _⟩) hs1).trans c2, (hb.cell (p := ⟨_, _, _⟩) hs1).trans c3⟩
  go_region_held3 (fun W => W.cell? ⟨w.heap.size, 0, none⟩ = some (.int .i64 s1) ∧ W.cell? ⟨w.heap.size, 1, none⟩ = some (.int .i64 e1) ∧ W.cell? ⟨w.heap.size + 1, 0, none⟩ = some (.int .i64 s2) ∧ W.cell? ⟨w.heap.size + 1, 1, none⟩ = some (.int .i64 e2))
    (first | exact hk.out _ (Below.refl _ W0).drew | exact hk.out _ (blw_alloc (Below.refl _ W0).drew _) | exact hk.out _ (blw_alloc (blw_alloc (Below.refl _ W0).drew _) _))
    (first | (go_at_call 79; refine (Compare_any _ _ _).mono ?_; rintro e w' ⟨rfl, rfl⟩) | (go_at_call 78; refine (Or2_any _ (cmpI s1 s2) (cmpI e1 e2) _ ?_ ?_).mono ?_; (simp); (simp); rintro e w' ⟨rfl, rfl⟩))
  all_goals
    go_wp2_with fail
    go_ret
    exact ⟨rfl, blw_alloc hbel.drew _⟩

set_option maxHeartbeats 400000 in
theorem l4Before_any (s1 e1 d1 a1 s2 e2 d2 a2 : Int) (w : World) :
    Calls Tryd.prog 55 #[.agg #[.int .i64 s1, .int .i64 e1, .int .i64 d1, .int .i64 a1], .agg #[.int .i64 s2, .int .i64 e2, .int .i64 d2, .int .i64 a2]] w fun e w' => e = .returned (.bool (bef4 s1 e1 s2 e2)) ∧ Below w.heap.size w w' := by
  go_enter Tryd.func55, Tryd.ntmps55
  go_wp2_with fail
  all_goals
    go_ret
    exact ⟨ret_bool (by simp [bef4, *]), blw_alloc (blw_alloc (Below.refl _ _) _) _⟩

set_option maxHeartbeats 1000000 in
theorem IsSchedule_any (A : Option Addr) (c : Nat) (l : List RuleD) (w : World) (hl : Ls w w.heap.size encRule 4 A l) (hm : l.length ≤ 9223372036854775807) :
    Calls Tryd.prog 37 #[.slice A l.length c] w fun e w' => e = .returned (.bool (schedB l)) ∧ Below w.heap.size w w' := by
  have hlen : (l.length : Int) ≤ 9223372036854775807 := by omega
  go_enter Tryd.func37, Tryd.ntmps37
  go_wp2_with fail
  go_loopw [7] (fun i wr => ∃ k : Nat, k ≤ l.length ∧ i = .int .i64 k ∧ Below w.heap.size w wr ∧ Hid (∀ j, j < k → ruleAtB l j = true)) (fun i _ => l.length - (intOf i).toNat)
  case atStart => exact ⟨0, Nat.zero_le _, rfl, Below.refl _ _, fun j hj => absurd hj (Nat.not_lt_zero _)⟩
  case round =>
    obtain ⟨k, hk, rfl, hb, hall⟩ := hrel
    by_cases hlt : k < l.length
    · obtain ⟨b, off, rfl, hbb, hc0, hc1, hc2, hc3⟩ := (hl.below hb).at_Rule hlt
      have hsz := hb.size
      have hs4 : b < wr.heap.size := by omega
      have hs5 : b < wr.heap.size + 1 := by omega
      rcases ruleAtB_cases hlt with ⟨h1, hv⟩ | ⟨h1, h2, hv⟩ | ⟨h1, h2, h3, hv⟩ | ⟨h1, h2, h3, hv⟩
      iterate 2
        · have Hv := Lib.hid hv
          clear hv
          go_wp2_with fail
          refine wp_region_calm (by kernel_rfl) (by kernel_rfl) ?_
          repeat (go_big_quiet_step ((go_at_call 61; exact Calls.calm (IsRule_any _ _ _ _ _))))
          refine wpQuiet_nil ?_
          rintro _ ⟨⟨w1, hb1⟩, rfl⟩
          go_wp2_with fail
          first
            | (go_ret; exact ⟨ret_bool (schedB_bad k hlt Hv.out).symm, blw (blw_alloc hb _) hb1⟩)
            | (go_roundw
               case rel => exact ⟨k + 1, by omega, by go_num, blw (blw_alloc hb _) hb1, fun j hj => by rcases Nat.lt_succ_iff_lt_or_eq.1 hj with h | rfl; exact hall.out _ h; exact Hv.out⟩
               case measure => simp [intOf]; omega)
      iterate 2
        · have Hv := Lib.hid hv
          clear hv
          obtain ⟨b', off', hbo, _, hd0, hd1, hd2, hd3⟩ := (hl.below hb).at_Rule (k := k - 1) (by omega)
          cases hbo
          rw [prv_eq] at hd0 hd1 hd2 hd3
          have hk0 : 0 < k := by simpa using h2
          have hi1 : 1 ≤ (k : Int) := by omega
          have hi2 : (k : Int) - 1 < (l.length : Int) := by omega
          have h4 := @cmp4_ge (prv l k).s (prv l k).e l[k].s l[k].e
          rw [h3] at h4
          simp only [Bool.not_false, Bool.not_true] at h4
          go_wp2_with fail
          refine wp_region_calm (by kernel_rfl) (by kernel_rfl) ?_
          repeat (go_big_quiet_step (first | (go_at_call 61; exact Calls.calm (IsRule_any _ _ _ _ _)) | (go_at_call 62; exact Calls.calm (compareRules_any _ _ _ _ _ _ _ _ _))))
          refine wpQuiet_nil ?_
          rintro _ ⟨⟨w1, hb1⟩, rfl⟩
          go_wp2_with fail
          first
            | (go_ret; exact ⟨ret_bool (schedB_bad k hlt Hv.out).symm, blw (blw_alloc hb _) hb1⟩)
            | (go_roundw
               case rel => exact ⟨k + 1, by omega, by go_num, blw (blw_alloc hb _) hb1, fun j hj => by rcases Nat.lt_succ_iff_lt_or_eq.1 hj with h | rfl; exact hall.out _ h; exact Hv.out⟩
               case measure => simp [intOf]; omega)
    · have hkk : k = l.length := by omega
      subst hkk
      go_wp2_with fail
      go_ret
      exact ⟨ret_bool (by rw [schedB_end hall.out]; simp; try omega), hb⟩

set_option maxHeartbeats 1000000 in
theorem l4Good_any (A : Option Addr) (c : Nat) (l : List RuleD) (w : World) (hl : Ls w w.heap.size encRule 4 A l) (hm : l.length ≤ 9223372036854775807) :
    Calls Tryd.prog 33 #[.slice A l.length c] w fun e w' => e = .returned (.bool (schedB l)) ∧ Below w.heap.size w w' := by
  have hlen : (l.length : Int) ≤ 9223372036854775807 := by omega
  go_enter Tryd.func33, Tryd.ntmps33
  go_wp2_with fail
  go_loopw [3] (fun i wr => ∃ k : Nat, k ≤ l.length ∧ i = .int .i64 k ∧ Below w.heap.size w wr ∧ Hid (∀ j, j < k → ruleAtB l j = true)) (fun i _ => l.length - (intOf i).toNat)
  case atStart => exact ⟨0, Nat.zero_le _, rfl, Below.refl _ _, fun j hj => absurd hj (Nat.not_lt_zero _)⟩
  case round =>
    obtain ⟨k, hk, rfl, hb, hall⟩ := hrel
    by_cases hlt : k < l.length
    · obtain ⟨b, off, rfl, hbb, hc0, hc1, hc2, hc3⟩ := (hl.below hb).at_Rule hlt
      have hsz := hb.size
      have hs4 : b < wr.heap.size := by omega
      have hi0 : (0 : Int) ≤ (k : Int) := by omega
      have hi3 : (k : Int) < (l.length : Int) := by omega
      rcases ruleAtB_cases hlt with ⟨h1, hv⟩ | ⟨h1, h2, hv⟩ | ⟨h1, h2, h3, hv⟩ | ⟨h1, h2, h3, hv⟩
      iterate 2
        · have Hv := Lib.hid hv
          clear hv
          go_wp2_with fail
          refine wp_region_calm (by kernel_rfl) (by kernel_rfl) ?_
          repeat (go_big_quiet_step ((go_at_call 54; exact Calls.calm (l4One_any _ _ _ _ _))))
          refine wpQuiet_nil ?_
          rintro _ ⟨⟨w1, hb1⟩, rfl⟩
          go_wp2_with fail
          first
            | (go_ret; exact ⟨ret_bool (schedB_bad k hlt Hv.out).symm, blw hb hb1⟩)
            | (go_roundw
               case rel => exact ⟨k + 1, by omega, by go_num, blw hb hb1, fun j hj => by rcases Nat.lt_succ_iff_lt_or_eq.1 hj with h | rfl; exact hall.out _ h; exact Hv.out⟩
               case measure => simp [intOf]; omega)
      iterate 2
        · have Hv := Lib.hid hv
          clear hv
          obtain ⟨b', off', hbo, _, hd0, hd1, hd2, hd3⟩ := (hl.below hb).at_Rule (k := k - 1) (by omega)
          cases hbo
          rw [prv_eq] at hd0 hd1 hd2 hd3
          have hk0 : 0 < k := by simpa using h2
          have hi1 : 1 ≤ (k : Int) := by omega
          have hi2 : (k : Int) - 1 < (l.length : Int) := by omega
          go_wp2_with fail
          refine wp_region_calm (by kernel_rfl) (by kernel_rfl) ?_
          repeat (go_big_quiet_step (first | (go_at_call 54; exact Calls.calm (l4One_any _ _ _ _ _)) | (go_at_call 55; exact Calls.calm (l4Before_any _ _ _ _ _ _ _ _ _))))
          refine wpQuiet_nil ?_
          rintro _ ⟨⟨w1, hb1⟩, rfl⟩
          go_wp2_with fail
          first
            | (go_ret; exact ⟨ret_bool (schedB_bad k hlt Hv.out).symm, blw hb hb1⟩)
            | (go_roundw
               case rel => exact ⟨k + 1, by omega, by go_num, blw hb hb1, fun j hj => by rcases Nat.lt_succ_iff_lt_or_eq.1 hj with h | rfl; exact hall.out _ h; exact Hv.out⟩
               case measure => simp [intOf]; omega)
    · have hkk : k = l.length := by omega
      subst hkk
      go_wp2_with fail
      go_ret
      exact ⟨ret_bool (by rw [schedB_end hall.out]; simp; try omega), hb⟩


end Go.Proofs.YtopfcfedcmpamaaDoor
