/- Contracts: l3Good. -/
import Derived.Test.YtnjgnehiclkkoaaDoorW3c
namespace Go.Proofs.YtnjgnehiclkkoaaDoor
set_option linter.unusedVariables false
set_option linter.unusedSimpArgs false
open Go.RowKit
attribute [local go_sem] Aft.cell

theorem fnAtB_cases {l : List FnD} {k : Nat} (h : k < l.length) :
    (fnB l[k] = false ∧ fnAtB l k = false) ∨
    (fnB l[k] = true ∧ decide (0 < k) = true ∧ decide (idAt l (k - 1) < l[k].id) = false ∧ fnAtB l k = false) ∨
    (fnB l[k] = true ∧ (decide (0 < k) = false ∨ (decide (0 < k) = true ∧ decide (idAt l (k - 1) < l[k].id) = true)) ∧ decide (l[k].parent ≤ 0) = false ∧ hasF (l.take k) l[k].parent = false ∧ fnAtB l k = false) ∨
    (fnB l[k] = true ∧ (decide (0 < k) = false ∨ (decide (0 < k) = true ∧ decide (idAt l (k - 1) < l[k].id) = true)) ∧ (decide (l[k].parent ≤ 0) = true ∨ (decide (l[k].parent ≤ 0) = false ∧ hasF (l.take k) l[k].parent = true)) ∧ fnAtB l k = !(l.take k).any (sameF l[k])) := by
  have hf : l[k]? = some l[k] := by simp [h]
  have hz : decide (k = 0) = !decide (0 < k) := by by_cases hk : k = 0 <;> simp [hk]; omega
  unfold fnAtB
  rw [hf]
  simp only [hz]
  cases fnB l[k] <;> cases decide (0 < k) <;> cases decide (idAt l (k - 1) < l[k].id) <;> cases decide (l[k].parent ≤ 0) <;> cases hasF (l.take k) l[k].parent <;> simp

theorem l3Find_take (A : Option Addr) (c : Nat) (l : List FnD) (k : Nat) (id : Int) (w : World) (hl : Ls w w.heap.size encFn 3 A l) (hm : l.length ≤ 9223372036854775807) (hk : k ≤ l.length) :
    Calls Tryd.prog 36 #[.slice A k c, .int .i64 id] w fun e w' => e = .returned (.int .i64 (idxFI (l.take k) id)) ∧ Below w.heap.size w w' := by
  have h := l3Find_any A c (l.take k) id w hl.take (by rw [List.length_take]; omega)
  rwa [List.length_take, Nat.min_eq_left hk] at h

set_option maxHeartbeats 4000000 in
theorem l3Good_big (A : Option Addr) (c : Nat) (l : List FnD) (w : World) (hl : Ls w w.heap.size encFn 3 A l) (hm : l.length ≤ 2000000) (hnm : ∀ f ∈ l, f.name.size ≤ 1048576) (hcap : l.length ≤ c) :
    Calls Tryd.prog 30 #[.slice A l.length c] w fun e w' => e = .returned (.bool (treeB l)) ∧ Below w.heap.size w w' := by
  have hlen : (l.length : Int) ≤ 2000000 := by omega
  go_enter Tryd.func30, Tryd.ntmps30
  go_wp2_with fail
  go_loopw [3] (fun i wr => ∃ k : Nat, k ≤ l.length ∧ k ≤ 16 ∧ i = .int .i64 k ∧ Below w.heap.size w wr ∧ Hid (∀ j, j < k → fnAtB l j = true)) (fun i _ => l.length - (intOf i).toNat)
  case atStart => exact ⟨0, Nat.zero_le _, Nat.zero_le _, rfl, Below.refl _ _, fun j hj => absurd hj (Nat.not_lt_zero _)⟩
  case round =>
    obtain ⟨k, hk, hk16, rfl, hb, hall⟩ := hrel
    by_cases hlt : k < l.length
    · by_cases hlt16 : k ≤ 15
      · obtain ⟨b, off, rfl, hbb, hc0, hc1, hc2⟩ := (hl.below hb).at_Function hlt
        have hsz := hb.size
        have hs4 : b < wr.heap.size := by omega
        have hs5 : b < wr.heap.size + 1 := by omega
        have hns : l[k].name.size ≤ 9223372036854775807 := by have := hnm l[k] (List.getElem_mem hlt); omega
        have hlb := ((hl.below hb).more hb.size)
        have hlm : l.length ≤ 9223372036854775807 := by omega
        have hkc : k ≤ c := by omega
        rcases fnAtB_cases hlt with ⟨h1, hv⟩ | ⟨h1, h2, h3, hv⟩ | ⟨h1, h2, h3, h4, hv⟩ | ⟨h1, h2, h3, hv⟩
        · have Hv := Lib.hid (treeB_bad k hlt hv)
          clear hv
          go_wp2_with fail
          refine wp_region_calm (by kernel_rfl) (by kernel_rfl) ?_
          repeat (go_big_quiet_step (first | (go_at_call 45; refine Calls.calm (l3One_any l[k] _ hns)) | (go_at_call 36; refine Calls.calm (l3Find_take _ _ l k _ _ ((hlb.alloc (Nat.le_refl _) _ |>.more (by simp)).below (Aft.h _) |>.more (Aft.h _).size) hlm hk))))
          refine wpQuiet_nil ?_
          rintro w1 ⟨x1, hW1⟩
          have hb1 := x1.h
          rw [← hW1] at hb1
          clear hW1 x1
          go_wp2_with fail
          go_ret
          exact ⟨ret_bool Hv.out.symm, blw (blw_alloc hb _) hb1⟩
        · have Hv := Lib.hid (treeB_bad k hlt hv)
          clear hv
          obtain ⟨b', off', hbo, _, hp1, _, _⟩ := (hl.below hb).at_Function (show k - 1 < l.length by omega)
          cases hbo
          rw [idAt_eq] at hp1
          have hk0 : 0 < k := by simpa using h2
          have hi1 : 1 ≤ (k : Int) := by omega
          have hi2 : (k : Int) - 1 < (l.length : Int) := by omega
          have h5 : l[k].id ≤ idAt l (k - 1) := by simpa using h3
          clear h3
          go_wp2_with fail
          refine wp_region_calm (by kernel_rfl) (by kernel_rfl) ?_
          repeat (go_big_quiet_step (first | (go_at_call 45; refine Calls.calm (l3One_any l[k] _ hns)) | (go_at_call 36; refine Calls.calm (l3Find_take _ _ l k _ _ ((hlb.alloc (Nat.le_refl _) _ |>.more (by simp)).below (Aft.h _) |>.more (Aft.h _).size) hlm hk))))
          refine wpQuiet_nil ?_
          rintro w1 ⟨x1, hW1⟩
          have hb1 := x1.h
          rw [← hW1] at hb1
          clear hW1 x1
          go_wp2_with fail
          go_ret
          exact ⟨ret_bool Hv.out.symm, blw (blw_alloc hb _) hb1⟩
        · have Hv := Lib.hid (treeB_bad k hlt hv)
          clear hv
          have hz : idxFI (l.take k) l[k].parent = -1 := by unfold idxFI; rw [h4]; rfl
          have hp0 : 0 < l[k].parent := by simpa using h3
          clear h3 h4
          rcases h2 with h2 | ⟨h2, h5⟩
          · have hk1 : ¬ 0 < k := by simpa using h2
            go_wp2_with fail
            refine wp_region_calm (by kernel_rfl) (by kernel_rfl) ?_
            repeat (go_big_quiet_step (first | (go_at_call 45; refine Calls.calm (l3One_any l[k] _ hns)) | (go_at_call 36; refine Calls.calm (l3Find_take _ _ l k _ _ ((hlb.alloc (Nat.le_refl _) _ |>.more (by simp)).below (Aft.h _) |>.more (Aft.h _).size) hlm hk))))
            refine wpQuiet_nil ?_
            rintro w1 ⟨x1, hW1⟩
            have hb1 := x1.h
            rw [← hW1] at hb1
            clear hW1 x1
            go_wp2_with fail
            go_ret
            exact ⟨ret_bool Hv.out.symm, blw (blw_alloc hb _) hb1⟩
          · have h6 : idAt l (k - 1) < l[k].id := by simpa using h5
            have h7 : decide (l[k].id ≤ idAt l (k - 1)) = false := by simp; omega
            clear h5
            obtain ⟨b', off', hbo, _, hp1, _, _⟩ := (hl.below hb).at_Function (show k - 1 < l.length by omega)
            cases hbo
            rw [idAt_eq] at hp1
            have hk0 : 0 < k := by simpa using h2
            have hi1 : 1 ≤ (k : Int) := by omega
            have hi2 : (k : Int) - 1 < (l.length : Int) := by omega
            go_wp2_with fail
            refine wp_region_calm (by kernel_rfl) (by kernel_rfl) ?_
            repeat (go_big_quiet_step (first | (go_at_call 45; refine Calls.calm (l3One_any l[k] _ hns)) | (go_at_call 36; refine Calls.calm (l3Find_take _ _ l k _ _ ((hlb.alloc (Nat.le_refl _) _ |>.more (by simp)).below (Aft.h _) |>.more (Aft.h _).size) hlm hk))))
            refine wpQuiet_nil ?_
            rintro w1 ⟨x1, hW1⟩
            have hb1 := x1.h
            rw [← hW1] at hb1
            clear hW1 x1
            go_wp2_with fail
            go_ret
            exact ⟨ret_bool Hv.out.symm, blw (blw_alloc hb _) hb1⟩
        · rcases h3 with h3 | ⟨h3, h4⟩
          · have hp0 : l[k].parent ≤ 0 := by simpa using h3
            have hp9 : decide (0 < l[k].parent) = false := by simp; omega
            clear h3
            rcases h2 with h2 | ⟨h2, h5⟩
            · have hk1 : ¬ 0 < k := by simpa using h2
              go_wp2_with fail
              refine wp_region_calm (by kernel_rfl) (by kernel_rfl) ?_
              repeat (go_big_quiet_step (first | (go_at_call 45; refine Calls.calm (l3One_any l[k] _ hns)) | (go_at_call 36; refine Calls.calm (l3Find_take _ _ l k _ _ ((hlb.alloc (Nat.le_refl _) _ |>.more (by simp)).below (Aft.h _) |>.more (Aft.h _).size) hlm hk))))
              refine wpQuiet_nil ?_
              rintro w1 ⟨x1, hW1⟩
              have hb1 := x1.h
              rw [← hW1] at hb1
              clear hW1 x1
              have hB1 := blw (blw_alloc hb _) hb1
              have hbx := (FnBox.new wr l[k] 49).below hb1
              have hl1 := ((hlb.alloc (Nat.le_refl _) (.cells #[.int .i64 l[k].id, .int .i64 l[k].parent, .string l[k].name] 49)).more (by simp)).below hb1 |>.more hb1.size
              have Hv := Lib.hid hv
              clear hv hc0 hc1 hc2 hsz hs4 hs5
              have hpp := hbx.lt
              generalize wr.heap.size = p at *
              go_wp2_with fail
              obtain ⟨wo, rfl⟩ : ∃ wo : World, wo = wr := ⟨_, rfl⟩
              go_loopw [5] (fun q wz => ∃ j : Nat, j ≤ k ∧ q = .int .i64 j ∧ Below w1.heap.size w1 wz ∧ Hid (∀ q (hq : q < l.length), q < j → sameF l[k] l[q] = false)) (fun q _ => k - (intOf q).toNat)
              case atStart => exact ⟨0, Nat.zero_le _, rfl, Below.refl _ _, fun q _ hq => absurd hq (Nat.not_lt_zero _)⟩
              case round =>
                obtain ⟨j, hj, rfl, hbz, hno⟩ := hrel
                obtain ⟨x0, x1, x2, xl⟩ := hbx.below hbz
                by_cases hjk : j < k
                · exfalso; omega
                · have hjj : j = k := by omega
                  subst hjj
                  have Hg : Hid (fnAtB l j = true) := by
                    unfold Hid
                    rw [Hv.out]
                    have : (l.take j).any (sameF l[j]) = false := by
                      rw [List.any_eq_false]
                      intro x hx
                      obtain ⟨q, hq, rfl⟩ := List.mem_take_iff_getElem.1 hx
                      rw [hno.out q (by omega) (by omega)]; exact Bool.false_ne_true
                    rw [this]; rfl
                  go_wp2_with fail
                  go_roundw
                  case rel => exact ⟨j + 1, by omega, by omega, by go_num, blw hB1 hbz, fun i hi => by rcases Nat.lt_succ_iff_lt_or_eq.1 hi with h | rfl; exact hall.out _ h; exact Hg.out⟩
                  case measure => simp [intOf]; omega
            · have h6 : idAt l (k - 1) < l[k].id := by simpa using h5
              have h7 : decide (l[k].id ≤ idAt l (k - 1)) = false := by simp; omega
              clear h5
              obtain ⟨b', off', hbo, _, hp1, _, _⟩ := (hl.below hb).at_Function (show k - 1 < l.length by omega)
              cases hbo
              rw [idAt_eq] at hp1
              have hk0 : 0 < k := by simpa using h2
              have hi1 : 1 ≤ (k : Int) := by omega
              have hi2 : (k : Int) - 1 < (l.length : Int) := by omega
              go_wp2_with fail
              refine wp_region_calm (by kernel_rfl) (by kernel_rfl) ?_
              repeat (go_big_quiet_step (first | (go_at_call 45; refine Calls.calm (l3One_any l[k] _ hns)) | (go_at_call 36; refine Calls.calm (l3Find_take _ _ l k _ _ ((hlb.alloc (Nat.le_refl _) _ |>.more (by simp)).below (Aft.h _) |>.more (Aft.h _).size) hlm hk))))
              refine wpQuiet_nil ?_
              rintro w1 ⟨x1, hW1⟩
              have hb1 := x1.h
              rw [← hW1] at hb1
              clear hW1 x1
              clear hp1
              have hB1 := blw (blw_alloc hb _) hb1
              have hbx := (FnBox.new wr l[k] 49).below hb1
              have hl1 := ((hlb.alloc (Nat.le_refl _) (.cells #[.int .i64 l[k].id, .int .i64 l[k].parent, .string l[k].name] 49)).more (by simp)).below hb1 |>.more hb1.size
              have Hv := Lib.hid hv
              clear hv hc0 hc1 hc2 hsz hs4 hs5
              have hpp := hbx.lt
              generalize wr.heap.size = p at *
              go_wp2_with fail
              obtain ⟨wo, rfl⟩ : ∃ wo : World, wo = wr := ⟨_, rfl⟩
              go_loopw [5] (fun q wz => ∃ j : Nat, j ≤ k ∧ q = .int .i64 j ∧ Below w1.heap.size w1 wz ∧ Hid (∀ q (hq : q < l.length), q < j → sameF l[k] l[q] = false)) (fun q _ => k - (intOf q).toNat)
              case atStart => exact ⟨0, Nat.zero_le _, rfl, Below.refl _ _, fun q _ hq => absurd hq (Nat.not_lt_zero _)⟩
              case round =>
                obtain ⟨j, hj, rfl, hbz, hno⟩ := hrel
                obtain ⟨x0, x1, x2, xl⟩ := hbx.below hbz
                by_cases hjk : j < k
                · obtain ⟨b2, off2, hbo, hb2, hd0, hd1, hd2⟩ := (hl1.below hbz).at_Function (show j < l.length by omega)
                  cases hbo
                  have hjl : (j : Int) < (l.length : Int) := by omega
                  have hszz := hbz.size
                  have hb3 : b < wr.heap.size := by omega
                  have hp3 : p < wr.heap.size := by omega
                  rcases (show (sameF l[k] l[j] = false ∧ (l[j].parent == l[k].parent) = false) ∨ (sameF l[k] l[j] = false ∧ (l[j].parent == l[k].parent) = true ∧ (l[j].name.toList == l[k].name.toList) = false) ∨ (sameF l[k] l[j] = true ∧ (l[j].parent == l[k].parent) = true ∧ (l[j].name.toList == l[k].name.toList) = true) by
                    unfold sameF
                    cases (l[j].parent == l[k].parent) <;> cases (l[j].name.toList == l[k].name.toList) <;> simp) with ⟨hs, e1⟩ | ⟨hs, e1, e2⟩ | ⟨hs, e1, e2⟩
                  iterate 2
                    · have Hs := Lib.hid hs
                      clear hs
                      go_wp2_with fail
                      try
                        refine wp_region_calm (by kernel_rfl) (by kernel_rfl) ?_
                        repeat (go_big_quiet_step (fail))
                        refine wpQuiet_nil ?_
                        rintro w9 ⟨y1, hW9⟩
                        have hb9 := y1.h
                        rw [← hW9] at hb9
                        clear hW9 y1
                        go_wp2_with fail
                      go_roundw
                      case rel => exact ⟨j + 1, by omega, by go_num, by first | exact blw hbz hb9 | exact hbz, fun q hq hqj => by rcases Nat.lt_succ_iff_lt_or_eq.1 hqj with h | rfl; exact hno.out q hq h; exact Hs.out⟩
                      case measure => simp [intOf]; omega
                  · have Hs := Lib.hid (treeB_bad k hlt (by
                      rw [Hv.out]
                      have : (l.take k).any (sameF l[k]) = true := List.any_eq_true.2 ⟨l[j], List.mem_take_iff_getElem.2 ⟨j, by omega, rfl⟩, hs⟩
                      rw [this]; rfl))
                    clear hs
                    go_wp2_with fail
                    try
                      refine wp_region_calm (by kernel_rfl) (by kernel_rfl) ?_
                      repeat (go_big_quiet_step (fail))
                      refine wpQuiet_nil ?_
                      rintro w9 ⟨y1, hW9⟩
                      have hb9 := y1.h
                      rw [← hW9] at hb9
                      clear hW9 y1
                      go_wp2_with fail
                    go_ret
                    exact ⟨ret_bool Hs.out.symm, by first | exact blw (blw hB1 hbz) hb9 | exact blw hB1 hbz⟩
                · have hjj : j = k := by omega
                  subst hjj
                  have Hg : Hid (fnAtB l j = true) := by
                    unfold Hid
                    rw [Hv.out]
                    have : (l.take j).any (sameF l[j]) = false := by
                      rw [List.any_eq_false]
                      intro x hx
                      obtain ⟨q, hq, rfl⟩ := List.mem_take_iff_getElem.1 hx
                      rw [hno.out q (by omega) (by omega)]; exact Bool.false_ne_true
                    rw [this]; rfl
                  go_wp2_with fail
                  go_roundw
                  case rel => exact ⟨j + 1, by omega, by omega, by go_num, blw hB1 hbz, fun i hi => by rcases Nat.lt_succ_iff_lt_or_eq.1 hi with h | rfl; exact hall.out _ h; exact Hg.out⟩
                  case measure => simp [intOf]; omega
          · have hp0 : 0 < l[k].parent := by simpa using h3
            have hz : 0 ≤ idxFI (l.take k) l[k].parent := by unfold idxFI; rw [h4, if_pos rfl]; omega
            have hz2 : decide (idxFI (l.take k) l[k].parent < 0) = false := by simp; omega
            clear h3 h4
            rcases h2 with h2 | ⟨h2, h5⟩
            · have hk1 : ¬ 0 < k := by simpa using h2
              go_wp2_with fail
              refine wp_region_calm (by kernel_rfl) (by kernel_rfl) ?_
              repeat (go_big_quiet_step (first | (go_at_call 45; refine Calls.calm (l3One_any l[k] _ hns)) | (go_at_call 36; refine Calls.calm (l3Find_take _ _ l k _ _ ((hlb.alloc (Nat.le_refl _) _ |>.more (by simp)).below (Aft.h _) |>.more (Aft.h _).size) hlm hk))))
              refine wpQuiet_nil ?_
              rintro w1 ⟨x1, hW1⟩
              have hb1 := x1.h
              rw [← hW1] at hb1
              clear hW1 x1
              have hB1 := blw (blw_alloc hb _) hb1
              have hbx := (FnBox.new wr l[k] 49).below hb1
              have hl1 := ((hlb.alloc (Nat.le_refl _) (.cells #[.int .i64 l[k].id, .int .i64 l[k].parent, .string l[k].name] 49)).more (by simp)).below hb1 |>.more hb1.size
              have Hv := Lib.hid hv
              clear hv hc0 hc1 hc2 hsz hs4 hs5
              have hpp := hbx.lt
              generalize wr.heap.size = p at *
              go_wp2_with fail
              obtain ⟨wo, rfl⟩ : ∃ wo : World, wo = wr := ⟨_, rfl⟩
              go_loopw [5] (fun q wz => ∃ j : Nat, j ≤ k ∧ q = .int .i64 j ∧ Below w1.heap.size w1 wz ∧ Hid (∀ q (hq : q < l.length), q < j → sameF l[k] l[q] = false)) (fun q _ => k - (intOf q).toNat)
              case atStart => exact ⟨0, Nat.zero_le _, rfl, Below.refl _ _, fun q _ hq => absurd hq (Nat.not_lt_zero _)⟩
              case round =>
                obtain ⟨j, hj, rfl, hbz, hno⟩ := hrel
                obtain ⟨x0, x1, x2, xl⟩ := hbx.below hbz
                by_cases hjk : j < k
                · exfalso; omega
                · have hjj : j = k := by omega
                  subst hjj
                  have Hg : Hid (fnAtB l j = true) := by
                    unfold Hid
                    rw [Hv.out]
                    have : (l.take j).any (sameF l[j]) = false := by
                      rw [List.any_eq_false]
                      intro x hx
                      obtain ⟨q, hq, rfl⟩ := List.mem_take_iff_getElem.1 hx
                      rw [hno.out q (by omega) (by omega)]; exact Bool.false_ne_true
                    rw [this]; rfl
                  go_wp2_with fail
                  go_roundw
                  case rel => exact ⟨j + 1, by omega, by omega, by go_num, blw hB1 hbz, fun i hi => by rcases Nat.lt_succ_iff_lt_or_eq.1 hi with h | rfl; exact hall.out _ h; exact Hg.out⟩
                  case measure => simp [intOf]; omega
            · have h6 : idAt l (k - 1) < l[k].id := by simpa using h5
              have h7 : decide (l[k].id ≤ idAt l (k - 1)) = false := by simp; omega
              clear h5
              obtain ⟨b', off', hbo, _, hp1, _, _⟩ := (hl.below hb).at_Function (show k - 1 < l.length by omega)
              cases hbo
              rw [idAt_eq] at hp1
              have hk0 : 0 < k := by simpa using h2
              have hi1 : 1 ≤ (k : Int) := by omega
              have hi2 : (k : Int) - 1 < (l.length : Int) := by omega
              go_wp2_with fail
              refine wp_region_calm (by kernel_rfl) (by kernel_rfl) ?_
              repeat (go_big_quiet_step (first | (go_at_call 45; refine Calls.calm (l3One_any l[k] _ hns)) | (go_at_call 36; refine Calls.calm (l3Find_take _ _ l k _ _ ((hlb.alloc (Nat.le_refl _) _ |>.more (by simp)).below (Aft.h _) |>.more (Aft.h _).size) hlm hk))))
              refine wpQuiet_nil ?_
              rintro w1 ⟨x1, hW1⟩
              have hb1 := x1.h
              rw [← hW1] at hb1
              clear hW1 x1
              clear hp1
              have hB1 := blw (blw_alloc hb _) hb1
              have hbx := (FnBox.new wr l[k] 49).below hb1
              have hl1 := ((hlb.alloc (Nat.le_refl _) (.cells #[.int .i64 l[k].id, .int .i64 l[k].parent, .string l[k].name] 49)).more (by simp)).below hb1 |>.more hb1.size
              have Hv := Lib.hid hv
              clear hv hc0 hc1 hc2 hsz hs4 hs5
              have hpp := hbx.lt
              generalize wr.heap.size = p at *
              go_wp2_with fail
              obtain ⟨wo, rfl⟩ : ∃ wo : World, wo = wr := ⟨_, rfl⟩
              go_loopw [5] (fun q wz => ∃ j : Nat, j ≤ k ∧ q = .int .i64 j ∧ Below w1.heap.size w1 wz ∧ Hid (∀ q (hq : q < l.length), q < j → sameF l[k] l[q] = false)) (fun q _ => k - (intOf q).toNat)
              case atStart => exact ⟨0, Nat.zero_le _, rfl, Below.refl _ _, fun q _ hq => absurd hq (Nat.not_lt_zero _)⟩
              case round =>
                obtain ⟨j, hj, rfl, hbz, hno⟩ := hrel
                obtain ⟨x0, x1, x2, xl⟩ := hbx.below hbz
                by_cases hjk : j < k
                · obtain ⟨b2, off2, hbo, hb2, hd0, hd1, hd2⟩ := (hl1.below hbz).at_Function (show j < l.length by omega)
                  cases hbo
                  have hjl : (j : Int) < (l.length : Int) := by omega
                  have hszz := hbz.size
                  have hb3 : b < wr.heap.size := by omega
                  have hp3 : p < wr.heap.size := by omega
                  rcases (show (sameF l[k] l[j] = false ∧ (l[j].parent == l[k].parent) = false) ∨ (sameF l[k] l[j] = false ∧ (l[j].parent == l[k].parent) = true ∧ (l[j].name.toList == l[k].name.toList) = false) ∨ (sameF l[k] l[j] = true ∧ (l[j].parent == l[k].parent) = true ∧ (l[j].name.toList == l[k].name.toList) = true) by
                    unfold sameF
                    cases (l[j].parent == l[k].parent) <;> cases (l[j].name.toList == l[k].name.toList) <;> simp) with ⟨hs, e1⟩ | ⟨hs, e1, e2⟩ | ⟨hs, e1, e2⟩
                  iterate 2
                    · have Hs := Lib.hid hs
                      clear hs
                      go_wp2_with fail
                      try
                        refine wp_region_calm (by kernel_rfl) (by kernel_rfl) ?_
                        repeat (go_big_quiet_step (fail))
                        refine wpQuiet_nil ?_
                        rintro w9 ⟨y1, hW9⟩
                        have hb9 := y1.h
                        rw [← hW9] at hb9
                        clear hW9 y1
                        go_wp2_with fail
                      go_roundw
                      case rel => exact ⟨j + 1, by omega, by go_num, by first | exact blw hbz hb9 | exact hbz, fun q hq hqj => by rcases Nat.lt_succ_iff_lt_or_eq.1 hqj with h | rfl; exact hno.out q hq h; exact Hs.out⟩
                      case measure => simp [intOf]; omega
                  · have Hs := Lib.hid (treeB_bad k hlt (by
                      rw [Hv.out]
                      have : (l.take k).any (sameF l[k]) = true := List.any_eq_true.2 ⟨l[j], List.mem_take_iff_getElem.2 ⟨j, by omega, rfl⟩, hs⟩
                      rw [this]; rfl))
                    clear hs
                    go_wp2_with fail
                    try
                      refine wp_region_calm (by kernel_rfl) (by kernel_rfl) ?_
                      repeat (go_big_quiet_step (fail))
                      refine wpQuiet_nil ?_
                      rintro w9 ⟨y1, hW9⟩
                      have hb9 := y1.h
                      rw [← hW9] at hb9
                      clear hW9 y1
                      go_wp2_with fail
                    go_ret
                    exact ⟨ret_bool Hs.out.symm, by first | exact blw (blw hB1 hbz) hb9 | exact blw hB1 hbz⟩
                · have hjj : j = k := by omega
                  subst hjj
                  have Hg : Hid (fnAtB l j = true) := by
                    unfold Hid
                    rw [Hv.out]
                    have : (l.take j).any (sameF l[j]) = false := by
                      rw [List.any_eq_false]
                      intro x hx
                      obtain ⟨q, hq, rfl⟩ := List.mem_take_iff_getElem.1 hx
                      rw [hno.out q (by omega) (by omega)]; exact Bool.false_ne_true
                    rw [this]; rfl
                  go_wp2_with fail
                  go_roundw
                  case rel => exact ⟨j + 1, by omega, by omega, by go_num, blw hB1 hbz, fun i hi => by rcases Nat.lt_succ_iff_lt_or_eq.1 hi with h | rfl; exact hall.out _ h; exact Hg.out⟩
                  case measure => simp [intOf]; omega
      · have Hv := Lib.hid (treeB_long (l := l) (by omega))
        have h15 : 15 < l.length := by omega
        have h16 : 15 < k := by omega
        go_wp2_with fail
        go_ret
        exact ⟨ret_bool (by rw [Hv.out]; simp; omega), hb⟩
    · have hkk : k = l.length := by omega
      subst hkk
      have Hv := Lib.hid (treeB_end hall.out)
      go_wp2_with fail
      go_ret
      exact ⟨ret_bool (by rw [Hv.out]; simp; omega), hb⟩

theorem l3Good_any (A : Option Addr) (c : Nat) (l : List FnD) (w : World) (hl : Ls w w.heap.size encFn 3 A l) (hm : l.length ≤ 1048576) (hnm : ∀ f ∈ l, f.name.size ≤ 1048576) (hcap : l.length ≤ c) :
    Calls Tryd.prog 30 #[.slice A l.length c] w fun e w' => e = .returned (.bool (treeB l)) ∧ Below w.heap.size w w' := l3Good_big A c l w hl (by omega) hnm hcap

end Go.Proofs.YtnjgnehiclkkoaaDoor
