/- Contracts: IsTree. -/
import Derived.Test.YtnjgnehiclkkoaaDoorW3b
import Derived.Outline
namespace Go.Proofs.YtnjgnehiclkkoaaDoor
set_option linter.unusedVariables false
set_option linter.unusedSimpArgs false
open Go.RowKit
attribute [local go_sem] Aft.cell

set_option maxHeartbeats 400000 in
theorem IsTree1_any (f g : FnD) (p : Nat) (w : World) (hp : FnBox w p f) :
    Calls Tryd.prog 47 #[.agg #[.int .i64 g.id, .int .i64 g.parent, .string g.name], .pointer (some ⟨p, 0, none⟩)] w fun e w' => e = .returned (.bool (sameF f g)) ∧ Below w.heap.size w w' := by
  obtain ⟨c0, c1, c2, cl⟩ := hp
  cases h1 : g.parent == f.parent
  · have Hv : Hid (sameF f g = false) := by simp [Hid, sameF, h1]
    go_enter Tryd.func47, Tryd.ntmps47
    go_wp2_with fail
    go_ret
    exact ⟨ret_bool Hv.out.symm, blw_alloc (Below.refl _ _) _⟩
  · have Hv : Hid (sameF f g = (g.name.toList == f.name.toList)) := by simp [Hid, sameF, h1]
    go_enter Tryd.func47, Tryd.ntmps47
    go_wp2_with fail
    go_ret
    exact ⟨ret_bool Hv.out.symm, blw_alloc (Below.refl _ _) _⟩

def dupI (l : List FnD) (f : FnD) : Int := if l.any (sameF f) then (l.findIdx (sameF f) : Int) else -1

set_option maxHeartbeats 1000000 in
theorem ContainsFunc_IsTree (A : Option Addr) (c : Nat) (l : List FnD) (f : FnD) (p : Nat) (w : World) (hl : Ls w w.heap.size encFn 3 A l) (hm : l.length ≤ 9223372036854775807) (hp : FnBox w p f) :
    Calls Tryd.prog 48 #[.slice A l.length c, .func (.func 47) #[] #[.pointer (some ⟨p, 0, none⟩)]] w fun e w' => e = .returned (.int .i64 (dupI l f)) ∧ Below w.heap.size w w' := by
  have hlen : (l.length : Int) ≤ 9223372036854775807 := by omega
  go_enter Tryd.func48, Tryd.ntmps48
  go_wp2_with fail
  go_loopw [8] (fun i wr => ∃ j : Nat, j ≤ l.length ∧ i = .int .i64 j ∧ Below w.heap.size w wr ∧ Hid (∀ q (hq : q < l.length), q < j → sameF f l[q] = false)) (fun i _ => l.length - (intOf i).toNat)
  case atStart => exact ⟨0, Nat.zero_le _, rfl, Below.refl _ _, fun q _ hq => absurd hq (Nat.not_lt_zero _)⟩
  case round =>
    obtain ⟨j, hj, rfl, hb, hall⟩ := hrel
    have hp' := hp.below hb
    by_cases hjl : j < l.length
    · obtain ⟨b, off, rfl, hbb, hc0, hc1, hc2⟩ := (hl.below hb).at_Function hjl
      cases hx : sameF f l[j]
      · have Hx := Lib.hid hx
        go_wp2_with (go_at_call 47; refine (IsTree1_any f l[j] p _ hp').mono ?_; rw [Hx.out]; rintro e w1 ⟨rfl, hb1⟩)
        go_roundw
        case rel => exact ⟨j + 1, by omega, by go_num, blw hb hb1, fun q hq hqj => by rcases Nat.lt_succ_iff_lt_or_eq.1 hqj with h | rfl; exact hall.out q hq h; exact Hx.out⟩
        case measure => simp [intOf]; omega
      · have Hx := Lib.hid hx
        have Hv : Hid (dupI l f = (j : Int)) := by
          unfold Hid dupI
          have h1 : l.any (sameF f) = true := List.any_eq_true.2 ⟨l[j], List.getElem_mem hjl, hx⟩
          rw [if_pos h1, (List.findIdx_eq hjl).2 ⟨hx, fun q hq => hall.out q (by omega) hq⟩]
        clear hx
        go_wp2_with (go_at_call 47; refine (IsTree1_any f l[j] p _ hp').mono ?_; rw [Hx.out]; rintro e w1 ⟨rfl, hb1⟩)
        go_ret
        exact ⟨ret_int Hv.out.symm, blw hb hb1⟩
    · have hkk : j = l.length := by omega
      subst hkk
      have Hv : Hid (dupI l f = -1) := by
        unfold Hid dupI
        have h1 : l.any (sameF f) = false := by
          rw [List.any_eq_false]
          intro x hx
          obtain ⟨q, hq, rfl⟩ := List.mem_iff_getElem.1 hx
          rw [hall.out q hq hq]; exact Bool.false_ne_true
        rw [h1]; rfl
      go_wp2_with fail
      go_ret
      exact ⟨ret_int Hv.out.symm, hb⟩

set_option maxHeartbeats 400000 in
theorem ContainsFunc_any (A : Option Addr) (c : Nat) (l : List FnD) (f : FnD) (p : Nat) (w : World) (hl : Ls w w.heap.size encFn 3 A l) (hm : l.length ≤ 9223372036854775807) (hp : FnBox w p f) :
    Calls Tryd.prog 38 #[.slice A l.length c, .func (.func 47) #[] #[.pointer (some ⟨p, 0, none⟩)]] w fun e w' => e = .returned (.bool (l.any (sameF f))) ∧ Below w.heap.size w w' := by
  have hC := ContainsFunc_IsTree A c l f p w hl hm hp
  cases h1 : l.any (sameF f)
  · have hz : dupI l f = -1 := by unfold dupI; rw [h1]; rfl
    rw [hz] at hC
    clear hz
    go_enter Tryd.func38, Tryd.ntmps38
    go_wp2_with fail
    refine hC.mono ?_
    rintro e w1 ⟨rfl, hb1⟩
    go_wp2_with fail
    go_ret
    exact ⟨rfl, hb1⟩
  · have hz : 0 ≤ dupI l f := by unfold dupI; rw [h1, if_pos rfl]; omega
    generalize dupI l f = z at *
    go_enter Tryd.func38, Tryd.ntmps38
    go_wp2_with fail
    refine hC.mono ?_
    rintro e w1 ⟨rfl, hb1⟩
    go_wp2_with fail
    go_ret
    exact ⟨by simp [hz], hb1⟩

theorem fnAtI_cases {l : List FnD} {k : Nat} (h : k < l.length) :
    (fnB l[k] = false ∧ fnAtI l k = false) ∨
    (fnB l[k] = true ∧ decide (0 < k) = true ∧ decide (idAt l (k - 1) < l[k].id) = false ∧ fnAtI l k = false) ∨
    (fnB l[k] = true ∧ (decide (0 < k) = false ∨ (decide (0 < k) = true ∧ decide (idAt l (k - 1) < l[k].id) = true)) ∧ decide (l[k].parent ≤ 0) = false ∧ hasF l l[k].parent = false ∧ fnAtI l k = false) ∨
    (fnB l[k] = true ∧ (decide (0 < k) = false ∨ (decide (0 < k) = true ∧ decide (idAt l (k - 1) < l[k].id) = true)) ∧ (decide (l[k].parent ≤ 0) = true ∨ (decide (l[k].parent ≤ 0) = false ∧ hasF l l[k].parent = true)) ∧ fnAtI l k = !(l.take k).any (sameF l[k])) := by
  have hf : l[k]? = some l[k] := by simp [h]
  have hz : decide (k = 0) = !decide (0 < k) := by by_cases hk : k = 0 <;> simp [hk]; omega
  unfold fnAtI
  rw [hf]
  simp only [hz]
  cases fnB l[k] <;> cases decide (0 < k) <;> cases decide (idAt l (k - 1) < l[k].id) <;> cases decide (l[k].parent ≤ 0) <;> cases hasF l l[k].parent <;> simp

theorem Ls.take {α : Type} {w : World} {B sz k : Nat} {enc : α → List Value} {A : Option Addr} {l : List α} (h : Ls w B enc sz A l) : Ls w B enc sz A (l.take k) := fun hn => by
  obtain ⟨b, off, e, hb, hc⟩ := h (by rw [List.length_take] at hn; omega)
  refine ⟨b, off, e, hb, fun i hi j u hu => ?_⟩
  rw [List.length_take] at hi
  rw [List.getElem_take] at hu
  exact hc i (by omega) j u hu

set_option maxHeartbeats 4000000 in
theorem IsTree_any (A : Option Addr) (c : Nat) (l : List FnD) (w : World) (hl : Ls w w.heap.size encFn 3 A l) (hm : l.length ≤ 1048576) (hnm : ∀ f ∈ l, f.name.size ≤ 1048576) (hcap : l.length ≤ c) :
    Calls Tryd.prog 32 #[.slice A l.length c] w fun e w' => e = .returned (.bool (treeB l)) ∧ Below w.heap.size w w' := by
  have hlen : (l.length : Int) ≤ 1048576 := by omega
  go_enter Tryd.func32, Tryd.ntmps32
  go_wp2_with fail
  go_loopw [7] (fun i wr => ∃ k : Nat, k ≤ l.length ∧ i = .int .i64 k ∧ Below w.heap.size w wr ∧ Hid (∀ j, j < k → fnAtI l j = true)) (fun i _ => l.length - (intOf i).toNat)
  case atStart => exact ⟨0, Nat.zero_le _, rfl, Below.refl _ _, fun j hj => absurd hj (Nat.not_lt_zero _)⟩
  case round =>
    obtain ⟨k, hk, rfl, hb, hall⟩ := hrel
    by_cases hlt : k < l.length
    · obtain ⟨b, off, rfl, hbb, hc0, hc1, hc2⟩ := (hl.below hb).at_Function hlt
      have hsz := hb.size
      have hs4 : b < wr.heap.size := by omega
      have hs5 : b < wr.heap.size + 1 := by omega
      have hns : l[k].name.size ≤ 9223372036854775807 := by have := hnm l[k] (List.getElem_mem hlt); omega
      have hlb := ((hl.below hb).more hb.size)
      have hlm : l.length ≤ 9223372036854775807 := by omega
      have hkc : k ≤ c := by omega
      rcases fnAtI_cases hlt with ⟨h1, hv⟩ | ⟨h1, h2, h3, hv⟩ | ⟨h1, h2, h3, h4, hv⟩ | ⟨h1, h2, h3, hv⟩
      · have Hv := Lib.hid (treeB_badI k hlt hv)
        clear hv
        go_wp2_with fail
        refine wp_region_calm (by kernel_rfl) (by kernel_rfl) ?_
        repeat (go_big_quiet_step (first | (go_at_call 46; refine Calls.calm (IsFunction_any l[k] _ hns)) | (go_at_call 37; refine Calls.calm (functionAt_any _ _ l _ _ ((hlb.alloc (Nat.le_refl _) _ |>.more (by simp)).below (Aft.h _) |>.more (Aft.h _).size) hlm))))
        refine wpQuiet_nil ?_
        rintro w1 ⟨x1, hW1⟩
        have hb1 := x1.h
        rw [← hW1] at hb1
        clear hW1 x1
        go_wp2_with fail
        go_ret
        exact ⟨ret_bool Hv.out.symm, blw (blw_alloc hb _) hb1⟩
      · have Hv := Lib.hid (treeB_badI k hlt hv)
        clear hv
        obtain ⟨b', off', hbo, _, hp0, _, _⟩ := (hl.below hb).at_Function (show k - 1 < l.length by omega)
        cases hbo
        rw [idAt_eq] at hp0
        have hk0 : 0 < k := by simpa using h2
        have hi1 : 1 ≤ (k : Int) := by omega
        have hi2 : (k : Int) - 1 < (l.length : Int) := by omega
        have h5 : l[k].id ≤ idAt l (k - 1) := by simpa using h3
        clear h3
        go_wp2_with fail
        refine wp_region_calm (by kernel_rfl) (by kernel_rfl) ?_
        repeat (go_big_quiet_step (first | (go_at_call 46; refine Calls.calm (IsFunction_any l[k] _ hns)) | (go_at_call 37; refine Calls.calm (functionAt_any _ _ l _ _ ((hlb.alloc (Nat.le_refl _) _ |>.more (by simp)).below (Aft.h _) |>.more (Aft.h _).size) hlm))))
        refine wpQuiet_nil ?_
        rintro w1 ⟨x1, hW1⟩
        have hb1 := x1.h
        rw [← hW1] at hb1
        clear hW1 x1
        go_wp2_with fail
        go_ret
        exact ⟨ret_bool Hv.out.symm, blw (blw_alloc hb _) hb1⟩
      · have Hv := Lib.hid (treeB_badI k hlt hv)
        clear hv
        have hz : idxFI l l[k].parent = -1 := by unfold idxFI; rw [h4]; rfl
        have hp0 : 0 < l[k].parent := by simpa using h3
        clear h3 h4
        rcases h2 with h2 | ⟨h2, h5⟩
        · have hk1 : ¬ 0 < k := by simpa using h2
          go_wp2_with fail
          refine wp_region_calm (by kernel_rfl) (by kernel_rfl) ?_
          repeat (go_big_quiet_step (first | (go_at_call 46; refine Calls.calm (IsFunction_any l[k] _ hns)) | (go_at_call 37; refine Calls.calm (functionAt_any _ _ l _ _ ((hlb.alloc (Nat.le_refl _) _ |>.more (by simp)).below (Aft.h _) |>.more (Aft.h _).size) hlm))))
          refine wpQuiet_nil ?_
          rintro w1 ⟨x1, hW1⟩
          have hb1 := x1.h
          rw [← hW1] at hb1
          clear hW1 x1
          go_wp2_with fail
          go_ret
          exact ⟨ret_bool Hv.out.symm, blw (blw_alloc hb _) hb1⟩
        · have h6 : idAt l (k - 1) < l[k].id := by simpa using h5
          have h7 : decide (l[k].id ≤ idAt l (k - 1)) = false := by simp; omega
          clear h5
          obtain ⟨b', off', hbo, _, hp1, _, _⟩ := (hl.below hb).at_Function (show k - 1 < l.length by omega)
          cases hbo
          rw [idAt_eq] at hp1
          have hk0 : 0 < k := by simpa using h2
          have hi1 : 1 ≤ (k : Int) := by omega
          have hi2 : (k : Int) - 1 < (l.length : Int) := by omega
          go_wp2_with fail
          refine wp_region_calm (by kernel_rfl) (by kernel_rfl) ?_
          repeat (go_big_quiet_step (first | (go_at_call 46; refine Calls.calm (IsFunction_any l[k] _ hns)) | (go_at_call 37; refine Calls.calm (functionAt_any _ _ l _ _ ((hlb.alloc (Nat.le_refl _) _ |>.more (by simp)).below (Aft.h _) |>.more (Aft.h _).size) hlm))))
          refine wpQuiet_nil ?_
          rintro w1 ⟨x1, hW1⟩
          have hb1 := x1.h
          rw [← hW1] at hb1
          clear hW1 x1
          go_wp2_with fail
          go_ret
          exact ⟨ret_bool Hv.out.symm, blw (blw_alloc hb _) hb1⟩
      · rcases h3 with h3 | ⟨h3, h4⟩
        · have hp0 : l[k].parent ≤ 0 := by simpa using h3
          have hp9 : decide (0 < l[k].parent) = false := by simp; omega
          clear h3
          rcases h2 with h2 | ⟨h2, h5⟩
          · have hk1 : ¬ 0 < k := by simpa using h2
            go_wp2_with fail
            refine wp_region_calm (by kernel_rfl) (by kernel_rfl) ?_
            repeat (go_big_quiet_step (first | (go_at_call 46; refine Calls.calm (IsFunction_any l[k] _ hns)) | (go_at_call 37; refine Calls.calm (functionAt_any _ _ l _ _ ((hlb.alloc (Nat.le_refl _) _ |>.more (by simp)).below (Aft.h _) |>.more (Aft.h _).size) hlm))))
            refine wpQuiet_nil ?_
            rintro w1 ⟨x1, hW1⟩
            have hb1 := x1.h
            rw [← hW1] at hb1
            clear hW1 x1
            have hbx := (FnBox.new wr l[k] 49).below hb1
            have hlt2 := (((hlb.take (k := k)).alloc (Nat.le_refl _) (.cells #[.int .i64 l[k].id, .int .i64 l[k].parent, .string l[k].name] 49)).more (by simp)).below hb1 |>.more hb1.size
            have hC := ContainsFunc_any (some ⟨b, off, none⟩) c (l.take k) l[k] wr.heap.size w1 hlt2 (by rw [List.length_take]; omega) hbx
            rw [List.length_take, Nat.min_eq_left hk] at hC
            cases ha : (l.take k).any (sameF l[k])
            · rw [ha] at hC
              have Hv := Lib.hid (show fnAtI l k = true by rw [hv, ha]; rfl)
              clear hv ha hlt2 hbx
              go_wp2_with fail
              refine hC.mono ?_
              rintro e w2 ⟨rfl, hb2⟩
              go_wp2_with fail
              go_roundw
              case rel => exact ⟨k + 1, by omega, by go_num, blw (blw (blw_alloc hb _) hb1) hb2, fun j hj => by rcases Nat.lt_succ_iff_lt_or_eq.1 hj with h | rfl; exact hall.out _ h; exact Hv.out⟩
              case measure => simp [intOf]; omega
            · rw [ha] at hC
              have Hv := Lib.hid (treeB_badI k hlt (by rw [hv, ha]; rfl))
              clear hv ha hlt2 hbx
              go_wp2_with fail
              refine hC.mono ?_
              rintro e w2 ⟨rfl, hb2⟩
              go_wp2_with fail
              go_ret
              exact ⟨ret_bool Hv.out.symm, blw (blw (blw_alloc hb _) hb1) hb2⟩
          · have h6 : idAt l (k - 1) < l[k].id := by simpa using h5
            have h7 : decide (l[k].id ≤ idAt l (k - 1)) = false := by simp; omega
            clear h5
            obtain ⟨b', off', hbo, _, hp1, _, _⟩ := (hl.below hb).at_Function (show k - 1 < l.length by omega)
            cases hbo
            rw [idAt_eq] at hp1
            have hk0 : 0 < k := by simpa using h2
            have hi1 : 1 ≤ (k : Int) := by omega
            have hi2 : (k : Int) - 1 < (l.length : Int) := by omega
            go_wp2_with fail
            refine wp_region_calm (by kernel_rfl) (by kernel_rfl) ?_
            repeat (go_big_quiet_step (first | (go_at_call 46; refine Calls.calm (IsFunction_any l[k] _ hns)) | (go_at_call 37; refine Calls.calm (functionAt_any _ _ l _ _ ((hlb.alloc (Nat.le_refl _) _ |>.more (by simp)).below (Aft.h _) |>.more (Aft.h _).size) hlm))))
            refine wpQuiet_nil ?_
            rintro w1 ⟨x1, hW1⟩
            have hb1 := x1.h
            rw [← hW1] at hb1
            clear hW1 x1
            have hbx := (FnBox.new wr l[k] 49).below hb1
            have hlt2 := (((hlb.take (k := k)).alloc (Nat.le_refl _) (.cells #[.int .i64 l[k].id, .int .i64 l[k].parent, .string l[k].name] 49)).more (by simp)).below hb1 |>.more hb1.size
            have hC := ContainsFunc_any (some ⟨b, off, none⟩) c (l.take k) l[k] wr.heap.size w1 hlt2 (by rw [List.length_take]; omega) hbx
            rw [List.length_take, Nat.min_eq_left hk] at hC
            cases ha : (l.take k).any (sameF l[k])
            · rw [ha] at hC
              have Hv := Lib.hid (show fnAtI l k = true by rw [hv, ha]; rfl)
              clear hv ha hlt2 hbx
              go_wp2_with fail
              refine hC.mono ?_
              rintro e w2 ⟨rfl, hb2⟩
              go_wp2_with fail
              go_roundw
              case rel => exact ⟨k + 1, by omega, by go_num, blw (blw (blw_alloc hb _) hb1) hb2, fun j hj => by rcases Nat.lt_succ_iff_lt_or_eq.1 hj with h | rfl; exact hall.out _ h; exact Hv.out⟩
              case measure => simp [intOf]; omega
            · rw [ha] at hC
              have Hv := Lib.hid (treeB_badI k hlt (by rw [hv, ha]; rfl))
              clear hv ha hlt2 hbx
              go_wp2_with fail
              refine hC.mono ?_
              rintro e w2 ⟨rfl, hb2⟩
              go_wp2_with fail
              go_ret
              exact ⟨ret_bool Hv.out.symm, blw (blw (blw_alloc hb _) hb1) hb2⟩
        · have hp0 : 0 < l[k].parent := by simpa using h3
          have hz : 0 ≤ idxFI l l[k].parent := by unfold idxFI; rw [h4, if_pos rfl]; omega
          have hz2 : decide (idxFI l l[k].parent < 0) = false := by simp; omega
          clear h3 h4
          rcases h2 with h2 | ⟨h2, h5⟩
          · have hk1 : ¬ 0 < k := by simpa using h2
            go_wp2_with fail
            refine wp_region_calm (by kernel_rfl) (by kernel_rfl) ?_
            repeat (go_big_quiet_step (first | (go_at_call 46; refine Calls.calm (IsFunction_any l[k] _ hns)) | (go_at_call 37; refine Calls.calm (functionAt_any _ _ l _ _ ((hlb.alloc (Nat.le_refl _) _ |>.more (by simp)).below (Aft.h _) |>.more (Aft.h _).size) hlm))))
            refine wpQuiet_nil ?_
            rintro w1 ⟨x1, hW1⟩
            have hb1 := x1.h
            rw [← hW1] at hb1
            clear hW1 x1
            have hbx := (FnBox.new wr l[k] 49).below hb1
            have hlt2 := (((hlb.take (k := k)).alloc (Nat.le_refl _) (.cells #[.int .i64 l[k].id, .int .i64 l[k].parent, .string l[k].name] 49)).more (by simp)).below hb1 |>.more hb1.size
            have hC := ContainsFunc_any (some ⟨b, off, none⟩) c (l.take k) l[k] wr.heap.size w1 hlt2 (by rw [List.length_take]; omega) hbx
            rw [List.length_take, Nat.min_eq_left hk] at hC
            cases ha : (l.take k).any (sameF l[k])
            · rw [ha] at hC
              have Hv := Lib.hid (show fnAtI l k = true by rw [hv, ha]; rfl)
              clear hv ha hlt2 hbx
              go_wp2_with fail
              refine hC.mono ?_
              rintro e w2 ⟨rfl, hb2⟩
              go_wp2_with fail
              go_roundw
              case rel => exact ⟨k + 1, by omega, by go_num, blw (blw (blw_alloc hb _) hb1) hb2, fun j hj => by rcases Nat.lt_succ_iff_lt_or_eq.1 hj with h | rfl; exact hall.out _ h; exact Hv.out⟩
              case measure => simp [intOf]; omega
            · rw [ha] at hC
              have Hv := Lib.hid (treeB_badI k hlt (by rw [hv, ha]; rfl))
              clear hv ha hlt2 hbx
              go_wp2_with fail
              refine hC.mono ?_
              rintro e w2 ⟨rfl, hb2⟩
              go_wp2_with fail
              go_ret
              exact ⟨ret_bool Hv.out.symm, blw (blw (blw_alloc hb _) hb1) hb2⟩
          · have h6 : idAt l (k - 1) < l[k].id := by simpa using h5
            have h7 : decide (l[k].id ≤ idAt l (k - 1)) = false := by simp; omega
            clear h5
            obtain ⟨b', off', hbo, _, hp1, _, _⟩ := (hl.below hb).at_Function (show k - 1 < l.length by omega)
            cases hbo
            rw [idAt_eq] at hp1
            have hk0 : 0 < k := by simpa using h2
            have hi1 : 1 ≤ (k : Int) := by omega
            have hi2 : (k : Int) - 1 < (l.length : Int) := by omega
            go_wp2_with fail
            refine wp_region_calm (by kernel_rfl) (by kernel_rfl) ?_
            repeat (go_big_quiet_step (first | (go_at_call 46; refine Calls.calm (IsFunction_any l[k] _ hns)) | (go_at_call 37; refine Calls.calm (functionAt_any _ _ l _ _ ((hlb.alloc (Nat.le_refl _) _ |>.more (by simp)).below (Aft.h _) |>.more (Aft.h _).size) hlm))))
            refine wpQuiet_nil ?_
            rintro w1 ⟨x1, hW1⟩
            have hb1 := x1.h
            rw [← hW1] at hb1
            clear hW1 x1
            have hbx := (FnBox.new wr l[k] 49).below hb1
            have hlt2 := (((hlb.take (k := k)).alloc (Nat.le_refl _) (.cells #[.int .i64 l[k].id, .int .i64 l[k].parent, .string l[k].name] 49)).more (by simp)).below hb1 |>.more hb1.size
            have hC := ContainsFunc_any (some ⟨b, off, none⟩) c (l.take k) l[k] wr.heap.size w1 hlt2 (by rw [List.length_take]; omega) hbx
            rw [List.length_take, Nat.min_eq_left hk] at hC
            cases ha : (l.take k).any (sameF l[k])
            · rw [ha] at hC
              have Hv := Lib.hid (show fnAtI l k = true by rw [hv, ha]; rfl)
              clear hv ha hlt2 hbx
              go_wp2_with fail
              refine hC.mono ?_
              rintro e w2 ⟨rfl, hb2⟩
              go_wp2_with fail
              go_roundw
              case rel => exact ⟨k + 1, by omega, by go_num, blw (blw (blw_alloc hb _) hb1) hb2, fun j hj => by rcases Nat.lt_succ_iff_lt_or_eq.1 hj with h | rfl; exact hall.out _ h; exact Hv.out⟩
              case measure => simp [intOf]; omega
            · rw [ha] at hC
              have Hv := Lib.hid (treeB_badI k hlt (by rw [hv, ha]; rfl))
              clear hv ha hlt2 hbx
              go_wp2_with fail
              refine hC.mono ?_
              rintro e w2 ⟨rfl, hb2⟩
              go_wp2_with fail
              go_ret
              exact ⟨ret_bool Hv.out.symm, blw (blw (blw_alloc hb _) hb1) hb2⟩
    · have hkk : k = l.length := by omega
      subst hkk
      have Hv := Lib.hid (treeB_endI hall.out)
      go_wp2_with fail
      go_ret
      exact ⟨ret_bool (by rw [Hv.out]; simp; omega), hb⟩

end Go.Proofs.YtnjgnehiclkkoaaDoor
