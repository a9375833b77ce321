/- Contracts: l5Good. -/
import Derived.Test.YtlhihdcdbclcbaaDoorW5c
namespace Go.Proofs.YtlhihdcdbclcbaaDoor
set_option linter.unusedVariables false
set_option linter.unusedSimpArgs false
open Go.RowKit
attribute [local go_sem] Aft.cell

set_option maxHeartbeats 4000000 in
theorem l5Good_any (A : Option Addr) (c : Nat) (l : List FileD) (w : World) (hl : Ls w w.heap.size encFile 7 A l) (hm : l.length ≤ 1048576) (hnm : ∀ f ∈ l, f.title.size ≤ 1048576) (hcap : l.length ≤ c) :
    Calls Tryd.prog 24 #[.slice A l.length c] w fun e w' => e = .returned (.bool (filesB l)) ∧ Below w.heap.size w w' := by
  have hlen : (l.length : Int) ≤ 1048576 := by omega
  go_enter Tryd.func24, Tryd.ntmps24
  go_wp2_with fail
  go_loopw [3] (fun i wr => ∃ k : Nat, k ≤ l.length ∧ k ≤ 11 ∧ i = .int .i64 k ∧ Below w.heap.size w wr ∧ Hid (∀ j, j < k → fileAtB l j = true)) (fun i _ => l.length - (intOf i).toNat)
  case atStart => exact ⟨0, Nat.zero_le _, Nat.zero_le _, rfl, Below.refl _ _, fun j hj => absurd hj (Nat.not_lt_zero _)⟩
  case round =>
    obtain ⟨k, hk, hk16, rfl, hb, hall⟩ := hrel
    by_cases hlt : k < l.length
    · by_cases hlt16 : k ≤ 10
      · obtain ⟨b, off, rfl, hbb, hc0, hc1, hc2, hc3, hc4, hc5, hc6⟩ := (hl.below hb).at_File hlt
        have hsz := hb.size
        have hs4 : b < wr.heap.size := by omega
        have hs5 : b < wr.heap.size + 1 := by omega
        have hns : l[k].title.size ≤ 9223372036854775807 := by have := hnm l[k] (List.getElem_mem hlt); omega
        have hlb := ((hl.below hb).more hb.size)
        have hlm : l.length ≤ 9223372036854775807 := by omega
        have hkc : k ≤ c := by omega
        rcases fileAtB_cases hlt with ⟨h1, hv⟩ | ⟨h1, h2, h3, hv⟩ | ⟨h1, h2, hv⟩
        · have Hv := Lib.hid (filesB_bad k hlt hv)
          clear hv
          go_wp2_with fail
          refine wp_region_calm (by kernel_rfl) (by kernel_rfl) ?_
          repeat (go_big_quiet_step ((go_at_call 42; refine Calls.calm (l5One_any l[k] _ hns))))
          refine wpQuiet_nil ?_
          rintro w1 ⟨x1, hW1⟩
          have hb1 := x1.h
          rw [← hW1] at hb1
          clear hW1 x1
          go_wp2_with fail
          go_ret
          exact ⟨ret_bool Hv.out.symm, blw hb hb1⟩
        · have Hv := Lib.hid (filesB_bad k hlt hv)
          clear hv
          obtain ⟨b', off', hbo, _, hp1, _, _, _, _, _, _⟩ := (hl.below hb).at_File (show k - 1 < l.length by omega)
          cases hbo
          rw [idXt_eq] at hp1
          have hk0 : 0 < k := by simpa using h2
          have hi1 : 1 ≤ (k : Int) := by omega
          have hi2 : (k : Int) - 1 < (l.length : Int) := by omega
          have h5 : l[k].id ≤ idXt l (k - 1) := by simpa using h3
          clear h3
          go_wp2_with fail
          refine wp_region_calm (by kernel_rfl) (by kernel_rfl) ?_
          repeat (go_big_quiet_step ((go_at_call 42; refine Calls.calm (l5One_any l[k] _ hns))))
          refine wpQuiet_nil ?_
          rintro w1 ⟨x1, hW1⟩
          have hb1 := x1.h
          rw [← hW1] at hb1
          clear hW1 x1
          go_wp2_with fail
          go_ret
          exact ⟨ret_bool Hv.out.symm, blw hb hb1⟩
        · rcases h2 with h2 | ⟨h2, h5⟩
          · have hk1 : ¬ 0 < k := by simpa using h2
            go_wp2_with fail
            refine wp_region_calm (by kernel_rfl) (by kernel_rfl) ?_
            repeat (go_big_quiet_step ((go_at_call 42; refine Calls.calm (l5One_any l[k] _ hns))))
            refine wpQuiet_nil ?_
            rintro w1 ⟨x1, hW1⟩
            have hb1 := x1.h
            rw [← hW1] at hb1
            clear hW1 x1
            have hB1 := blw hb hb1
            have hl1 := (hlb.below hb1).more hb1.size
            have Hv := Lib.hid hv
            clear hv hc0 hc1 hc2 hc3 hc4 hc5 hc6 hsz hs4 hs5
            go_wp2_with fail
            obtain ⟨wo, rfl⟩ : ∃ wo : World, wo = wr := ⟨_, rfl⟩
            go_loopw [4] (fun q wz => ∃ j : Nat, j ≤ k ∧ q = .int .i64 j ∧ Below w1.heap.size w1 wz ∧ Hid (∀ q (hq : q < l.length), q < j → sameX l[k] l[q] = false)) (fun q _ => k - (intOf q).toNat)
            case atStart => exact ⟨0, Nat.zero_le _, rfl, Below.refl _ _, fun q _ hq => absurd hq (Nat.not_lt_zero _)⟩
            case round =>
              obtain ⟨j, hj, rfl, hbz, hno⟩ := hrel
              by_cases hjk : j < k
              · exfalso; omega
              · have hjj : j = k := by omega
                subst hjj
                have Hg : Hid (fileAtB l j = true) := by
                  unfold Hid
                  rw [Hv.out]
                  have : (l.take j).any (sameX l[j]) = false := by
                    rw [List.any_eq_false]
                    intro x hx
                    obtain ⟨q, hq, rfl⟩ := List.mem_take_iff_getElem.1 hx
                    rw [hno.out q (by omega) (by omega)]; exact Bool.false_ne_true
                  rw [this]; rfl
                go_wp2_with fail
                go_roundw
                case rel => exact ⟨j + 1, by omega, by omega, by go_num, blw hB1 hbz, fun i hi => by rcases Nat.lt_succ_iff_lt_or_eq.1 hi with h | rfl; exact hall.out _ h; exact Hg.out⟩
                case measure => simp [intOf]; omega
          · have h6 : idXt l (k - 1) < l[k].id := by simpa using h5
            have h7 : decide (l[k].id ≤ idXt l (k - 1)) = false := by simp; omega
            clear h5
            obtain ⟨b', off', hbo, _, hp1, _, _, _, _, _, _⟩ := (hl.below hb).at_File (show k - 1 < l.length by omega)
            cases hbo
            rw [idXt_eq] at hp1
            have hk0 : 0 < k := by simpa using h2
            have hi1 : 1 ≤ (k : Int) := by omega
            have hi2 : (k : Int) - 1 < (l.length : Int) := by omega
            go_wp2_with fail
            refine wp_region_calm (by kernel_rfl) (by kernel_rfl) ?_
            repeat (go_big_quiet_step ((go_at_call 42; refine Calls.calm (l5One_any l[k] _ hns))))
            refine wpQuiet_nil ?_
            rintro w1 ⟨x1, hW1⟩
            have hb1 := x1.h
            rw [← hW1] at hb1
            clear hW1 x1
            clear hp1
            have hB1 := blw hb hb1
            have hl1 := (hlb.below hb1).more hb1.size
            have Hv := Lib.hid hv
            clear hv hc0 hc1 hc2 hc3 hc4 hc5 hc6 hsz hs4 hs5
            go_wp2_with fail
            obtain ⟨wo, rfl⟩ : ∃ wo : World, wo = wr := ⟨_, rfl⟩
            go_loopw [4] (fun q wz => ∃ j : Nat, j ≤ k ∧ q = .int .i64 j ∧ Below w1.heap.size w1 wz ∧ Hid (∀ q (hq : q < l.length), q < j → sameX l[k] l[q] = false)) (fun q _ => k - (intOf q).toNat)
            case atStart => exact ⟨0, Nat.zero_le _, rfl, Below.refl _ _, fun q _ hq => absurd hq (Nat.not_lt_zero _)⟩
            case round =>
              obtain ⟨j, hj, rfl, hbz, hno⟩ := hrel
              by_cases hjk : j < k
              · obtain ⟨b2, off2, hbo, hb2, hd0, hd1, hd2, hd3, hd4, hd5, hd6⟩ := (hl1.below hbz).at_File (show j < l.length by omega)
                cases hbo
                have hjl : (j : Int) < (l.length : Int) := by omega
                have hkl2 : (k : Int) < (l.length : Int) := by omega
                obtain ⟨b4, off4, hbo4, hb4, hk0', hk1', hk2', hk3', hk4', hk5', hk6'⟩ := (hl1.below hbz).at_File (show k < l.length by omega)
                cases hbo4
                have hszz := hbz.size
                have hb3 : b < wr.heap.size := by omega
                rcases (show (sameX l[k] l[j] = false ∧ (l[j].series == l[k].series) = false) ∨ (sameX l[k] l[j] = false ∧ (l[j].series == l[k].series) = true ∧ (l[j].title.toList == l[k].title.toList) = false) ∨ (sameX l[k] l[j] = true ∧ (l[j].series == l[k].series) = true ∧ (l[j].title.toList == l[k].title.toList) = true) by
                  unfold sameX
                  cases (l[j].series == l[k].series) <;> cases (l[j].title.toList == l[k].title.toList) <;> simp) with ⟨hs, e1⟩ | ⟨hs, e1, e2⟩ | ⟨hs, e1, e2⟩
                iterate 2
                  · have Hs := Lib.hid hs
                    clear hs
                    go_wp2_with fail
                    try
                      refine wp_region_calm (by kernel_rfl) (by kernel_rfl) ?_
                      repeat (go_big_quiet_step (fail))
                      refine wpQuiet_nil ?_
                      rintro w9 ⟨y1, hW9⟩
                      have hb9 := y1.h
                      rw [← hW9] at hb9
                      clear hW9 y1
                      go_wp2_with fail
                    go_roundw
                    case rel => exact ⟨j + 1, by omega, by go_num, by first | exact blw hbz hb9 | exact hbz, fun q hq hqj => by rcases Nat.lt_succ_iff_lt_or_eq.1 hqj with h | rfl; exact hno.out q hq h; exact Hs.out⟩
                    case measure => simp [intOf]; omega
                · have Hs := Lib.hid (filesB_bad k hlt (by
                    rw [Hv.out]
                    have : (l.take k).any (sameX l[k]) = true := List.any_eq_true.2 ⟨l[j], List.mem_take_iff_getElem.2 ⟨j, by omega, rfl⟩, hs⟩
                    rw [this]; rfl))
                  clear hs
                  go_wp2_with fail
                  try
                    refine wp_region_calm (by kernel_rfl) (by kernel_rfl) ?_
                    repeat (go_big_quiet_step (fail))
                    refine wpQuiet_nil ?_
                    rintro w9 ⟨y1, hW9⟩
                    have hb9 := y1.h
                    rw [← hW9] at hb9
                    clear hW9 y1
                    go_wp2_with fail
                  go_ret
                  exact ⟨ret_bool Hs.out.symm, by first | exact blw (blw hB1 hbz) hb9 | exact blw hB1 hbz⟩
              · have hjj : j = k := by omega
                subst hjj
                have Hg : Hid (fileAtB l j = true) := by
                  unfold Hid
                  rw [Hv.out]
                  have : (l.take j).any (sameX l[j]) = false := by
                    rw [List.any_eq_false]
                    intro x hx
                    obtain ⟨q, hq, rfl⟩ := List.mem_take_iff_getElem.1 hx
                    rw [hno.out q (by omega) (by omega)]; exact Bool.false_ne_true
                  rw [this]; rfl
                go_wp2_with fail
                go_roundw
                case rel => exact ⟨j + 1, by omega, by omega, by go_num, blw hB1 hbz, fun i hi => by rcases Nat.lt_succ_iff_lt_or_eq.1 hi with h | rfl; exact hall.out _ h; exact Hg.out⟩
                case measure => simp [intOf]; omega
      · have Hv := Lib.hid (filesB_long (l := l) (by omega))
        have h15 : 10 < l.length := by omega
        have h16 : 10 < k := by omega
        go_wp2_with fail
        go_ret
        exact ⟨ret_bool (by rw [Hv.out]; simp; omega), hb⟩
    · have hkk : k = l.length := by omega
      subst hkk
      have Hv := Lib.hid (filesB_end hall.out)
      go_wp2_with fail
      go_ret
      exact ⟨ret_bool (by rw [Hv.out]; simp; omega), hb⟩


end Go.Proofs.YtlhihdcdbclcbaaDoor
