/- Contracts: AreFiles. -/
import Derived.Test.YtlhihdcdbclcbaaDoorW5b
import Derived.Outline
namespace Go.Proofs.YtlhihdcdbclcbaaDoor
set_option linter.unusedVariables false
set_option linter.unusedSimpArgs false
open Go.RowKit
attribute [local go_sem] Aft.cell

set_option maxHeartbeats 400000 in
theorem AreFiles1_any (f g : FileD) (p : Nat) (w : World) (hp : FileBox w p f) :
    Calls Tryd.prog 45 #[.agg #[.int .i64 g.id, .int .i64 g.series, .string g.title, .int .i64 g.opened, .int .i64 g.closed, .int .i64 g.state, .int .i64 g.pages], .pointer (some ⟨p, 0, none⟩)] w fun e w' => e = .returned (.bool (sameX f g)) ∧ Below w.heap.size w w' := by
  obtain ⟨c0, c1, c2, c3, c4, c5, c6, cl⟩ := hp
  cases h1 : g.series == f.series
  · have Hv : Hid (sameX f g = false) := by simp [Hid, sameX, h1]
    go_enter Tryd.func45, Tryd.ntmps45
    go_wp2_with fail
    go_ret
    exact ⟨ret_bool Hv.out.symm, blw_alloc (Below.refl _ _) _⟩
  · have Hv : Hid (sameX f g = (g.title.toList == f.title.toList)) := by simp [Hid, sameX, h1]
    go_enter Tryd.func45, Tryd.ntmps45
    go_wp2_with fail
    go_ret
    exact ⟨ret_bool Hv.out.symm, blw_alloc (Below.refl _ _) _⟩

def dupX (l : List FileD) (f : FileD) : Int := if l.any (sameX f) then (l.findIdx (sameX f) : Int) else -1

set_option maxHeartbeats 1000000 in
theorem ContainsFunc_AreFiles (A : Option Addr) (c : Nat) (l : List FileD) (f : FileD) (p : Nat) (w : World) (hl : Ls w w.heap.size encFile 7 A l) (hm : l.length ≤ 9223372036854775807) (hp : FileBox w p f) :
    Calls Tryd.prog 55 #[.slice A l.length c, .func (.func 45) #[] #[.pointer (some ⟨p, 0, none⟩)]] w fun e w' => e = .returned (.int .i64 (dupX l f)) ∧ Below w.heap.size w w' := by
  have hlen : (l.length : Int) ≤ 9223372036854775807 := by omega
  go_enter Tryd.func55, Tryd.ntmps55
  go_wp2_with fail
  go_loopw [8] (fun i wr => ∃ j : Nat, j ≤ l.length ∧ i = .int .i64 j ∧ Below w.heap.size w wr ∧ Hid (∀ q (hq : q < l.length), q < j → sameX f l[q] = false)) (fun i _ => l.length - (intOf i).toNat)
  case atStart => exact ⟨0, Nat.zero_le _, rfl, Below.refl _ _, fun q _ hq => absurd hq (Nat.not_lt_zero _)⟩
  case round =>
    obtain ⟨j, hj, rfl, hb, hall⟩ := hrel
    have hp' := hp.below hb
    by_cases hjl : j < l.length
    · obtain ⟨b, off, rfl, hbb, hc0, hc1, hc2, hc3, hc4, hc5, hc6⟩ := (hl.below hb).at_File hjl
      cases hx : sameX f l[j]
      · have Hx := Lib.hid hx
        go_wp2_with (go_at_call 45; refine (AreFiles1_any f l[j] p _ hp').mono ?_; rw [Hx.out]; rintro e w1 ⟨rfl, hb1⟩)
        go_roundw
        case rel => exact ⟨j + 1, by omega, by go_num, blw hb hb1, fun q hq hqj => by rcases Nat.lt_succ_iff_lt_or_eq.1 hqj with h | rfl; exact hall.out q hq h; exact Hx.out⟩
        case measure => simp [intOf]; omega
      · have Hx := Lib.hid hx
        have Hv : Hid (dupX l f = (j : Int)) := by
          unfold Hid dupX
          have h1 : l.any (sameX f) = true := List.any_eq_true.2 ⟨l[j], List.getElem_mem hjl, hx⟩
          rw [if_pos h1, (List.findIdx_eq hjl).2 ⟨hx, fun q hq => hall.out q (by omega) hq⟩]
        clear hx
        go_wp2_with (go_at_call 45; refine (AreFiles1_any f l[j] p _ hp').mono ?_; rw [Hx.out]; rintro e w1 ⟨rfl, hb1⟩)
        go_ret
        exact ⟨ret_int Hv.out.symm, blw hb hb1⟩
    · have hkk : j = l.length := by omega
      subst hkk
      have Hv : Hid (dupX l f = -1) := by
        unfold Hid dupX
        have h1 : l.any (sameX f) = false := by
          rw [List.any_eq_false]
          intro x hx
          obtain ⟨q, hq, rfl⟩ := List.mem_iff_getElem.1 hx
          rw [hall.out q hq hq]; exact Bool.false_ne_true
        rw [h1]; rfl
      go_wp2_with fail
      go_ret
      exact ⟨ret_int Hv.out.symm, hb⟩

set_option maxHeartbeats 400000 in
theorem ContainsFunc_File (A : Option Addr) (c : Nat) (l : List FileD) (f : FileD) (p : Nat) (w : World) (hl : Ls w w.heap.size encFile 7 A l) (hm : l.length ≤ 9223372036854775807) (hp : FileBox w p f) :
    Calls Tryd.prog 44 #[.slice A l.length c, .func (.func 45) #[] #[.pointer (some ⟨p, 0, none⟩)]] w fun e w' => e = .returned (.bool (l.any (sameX f))) ∧ Below w.heap.size w w' := by
  have hC := ContainsFunc_AreFiles A c l f p w hl hm hp
  cases h1 : l.any (sameX f)
  · have hz : dupX l f = -1 := by unfold dupX; rw [h1]; rfl
    rw [hz] at hC
    clear hz
    go_enter Tryd.func44, Tryd.ntmps44
    go_wp2_with fail
    refine hC.mono ?_
    rintro e w1 ⟨rfl, hb1⟩
    go_wp2_with fail
    go_ret
    exact ⟨rfl, hb1⟩
  · have hz : 0 ≤ dupX l f := by unfold dupX; rw [h1, if_pos rfl]; omega
    generalize dupX l f = z at *
    go_enter Tryd.func44, Tryd.ntmps44
    go_wp2_with fail
    refine hC.mono ?_
    rintro e w1 ⟨rfl, hb1⟩
    go_wp2_with fail
    go_ret
    exact ⟨by simp [hz], hb1⟩

theorem fileAtB_cases {l : List FileD} {k : Nat} (h : k < l.length) :
    (fileB l[k] = false ∧ fileAtB l k = false) ∨
    (fileB l[k] = true ∧ decide (0 < k) = true ∧ decide (idXt l (k - 1) < l[k].id) = false ∧ fileAtB l k = false) ∨
    (fileB l[k] = true ∧ (decide (0 < k) = false ∨ (decide (0 < k) = true ∧ decide (idXt l (k - 1) < l[k].id) = true)) ∧ fileAtB l k = !(l.take k).any (sameX l[k])) := by
  have hf : l[k]? = some l[k] := by simp [h]
  have hz : decide (k = 0) = !decide (0 < k) := by by_cases hk : k = 0 <;> simp [hk]; omega
  unfold fileAtB
  rw [hf]
  simp only [hz]
  cases fileB l[k] <;> cases decide (0 < k) <;> cases decide (idXt l (k - 1) < l[k].id) <;> simp

theorem Ls.take {α : Type} {w : World} {B sz k : Nat} {enc : α → List Value} {A : Option Addr} {l : List α} (h : Ls w B enc sz A l) : Ls w B enc sz A (l.take k) := fun hn => by
  obtain ⟨b, off, e, hb, hc⟩ := h (by rw [List.length_take] at hn; omega)
  refine ⟨b, off, e, hb, fun i hi j u hu => ?_⟩
  rw [List.length_take] at hi
  rw [List.getElem_take] at hu
  exact hc i (by omega) j u hu

set_option maxHeartbeats 4000000 in
theorem AreFiles_any (A : Option Addr) (c : Nat) (l : List FileD) (w : World) (hl : Ls w w.heap.size encFile 7 A l) (hm : l.length ≤ 1048576) (hnm : ∀ f ∈ l, f.title.size ≤ 1048576) (hcap : l.length ≤ c) :
    Calls Tryd.prog 26 #[.slice A l.length c] w fun e w' => e = .returned (.bool (filesB l)) ∧ Below w.heap.size w w' := by
  have hlen : (l.length : Int) ≤ 1048576 := by omega
  go_enter Tryd.func26, Tryd.ntmps26
  go_wp2_with fail
  go_loopw [7] (fun i wr => ∃ k : Nat, k ≤ l.length ∧ i = .int .i64 k ∧ Below w.heap.size w wr ∧ Hid (∀ j, j < k → fileAtB l j = true)) (fun i _ => l.length - (intOf i).toNat)
  case atStart => exact ⟨0, Nat.zero_le _, rfl, Below.refl _ _, fun j hj => absurd hj (Nat.not_lt_zero _)⟩
  case round =>
    obtain ⟨k, hk, rfl, hb, hall⟩ := hrel
    by_cases hlt : k < l.length
    · obtain ⟨b, off, rfl, hbb, hc0, hc1, hc2, hc3, hc4, hc5, hc6⟩ := (hl.below hb).at_File hlt
      have hsz := hb.size
      have hs4 : b < wr.heap.size := by omega
      have hs5 : b < wr.heap.size + 1 := by omega
      have hns : l[k].title.size ≤ 9223372036854775807 := by have := hnm l[k] (List.getElem_mem hlt); omega
      have hlb := ((hl.below hb).more hb.size)
      have hlm : l.length ≤ 9223372036854775807 := by omega
      have hkc : k ≤ c := by omega
      rcases fileAtB_cases hlt with ⟨h1, hv⟩ | ⟨h1, h2, h3, hv⟩ | ⟨h1, h2, hv⟩
      · have Hv := Lib.hid (filesB_bad k hlt hv)
        clear hv
        go_wp2_with fail
        refine wp_region_calm (by kernel_rfl) (by kernel_rfl) ?_
        repeat (go_big_quiet_step ((go_at_call 43; refine Calls.calm (IsFile_any l[k] _ hns))))
        refine wpQuiet_nil ?_
        rintro w1 ⟨x1, hW1⟩
        have hb1 := x1.h
        rw [← hW1] at hb1
        clear hW1 x1
        go_wp2_with fail
        go_ret
        exact ⟨ret_bool Hv.out.symm, blw (blw_alloc hb _) hb1⟩
      · have Hv := Lib.hid (filesB_bad k hlt hv)
        clear hv
        obtain ⟨b', off', hbo, _, hp1, _, _, _, _, _, _⟩ := (hl.below hb).at_File (show k - 1 < l.length by omega)
        cases hbo
        rw [idXt_eq] at hp1
        have hk0 : 0 < k := by simpa using h2
        have hi1 : 1 ≤ (k : Int) := by omega
        have hi2 : (k : Int) - 1 < (l.length : Int) := by omega
        have h5 : l[k].id ≤ idXt l (k - 1) := by simpa using h3
        clear h3
        go_wp2_with fail
        refine wp_region_calm (by kernel_rfl) (by kernel_rfl) ?_
        repeat (go_big_quiet_step ((go_at_call 43; refine Calls.calm (IsFile_any l[k] _ hns))))
        refine wpQuiet_nil ?_
        rintro w1 ⟨x1, hW1⟩
        have hb1 := x1.h
        rw [← hW1] at hb1
        clear hW1 x1
        go_wp2_with fail
        go_ret
        exact ⟨ret_bool Hv.out.symm, blw (blw_alloc hb _) hb1⟩
      · rcases h2 with h2 | ⟨h2, h5⟩
        · have hk1 : ¬ 0 < k := by simpa using h2
          go_wp2_with fail
          refine wp_region_calm (by kernel_rfl) (by kernel_rfl) ?_
          repeat (go_big_quiet_step ((go_at_call 43; refine Calls.calm (IsFile_any l[k] _ hns))))
          refine wpQuiet_nil ?_
          rintro w1 ⟨x1, hW1⟩
          have hb1 := x1.h
          rw [← hW1] at hb1
          clear hW1 x1
          have hbx := (FileBox.new wr l[k] 47).below hb1
          have hlt2 := (((hlb.take (k := k)).alloc (Nat.le_refl _) (.cells #[.int .i64 l[k].id, .int .i64 l[k].series, .string l[k].title, .int .i64 l[k].opened, .int .i64 l[k].closed, .int .i64 l[k].state, .int .i64 l[k].pages] 47)).more (by simp)).below hb1 |>.more hb1.size
          have hC := ContainsFunc_File (some ⟨b, off, none⟩) c (l.take k) l[k] wr.heap.size w1 hlt2 (by rw [List.length_take]; omega) hbx
          rw [List.length_take, Nat.min_eq_left hk] at hC
          cases ha : (l.take k).any (sameX l[k])
          · rw [ha] at hC
            have Hv := Lib.hid (show fileAtB l k = true by rw [hv, ha]; rfl)
            clear hv ha hlt2 hbx
            go_wp2_with fail
            refine hC.mono ?_
            rintro e w2 ⟨rfl, hb2⟩
            go_wp2_with fail
            go_roundw
            case rel => exact ⟨k + 1, by omega, by go_num, blw (blw (blw_alloc hb _) hb1) hb2, fun j hj => by rcases Nat.lt_succ_iff_lt_or_eq.1 hj with h | rfl; exact hall.out _ h; exact Hv.out⟩
            case measure => simp [intOf]; omega
          · rw [ha] at hC
            have Hv := Lib.hid (filesB_bad k hlt (by rw [hv, ha]; rfl))
            clear hv ha hlt2 hbx
            go_wp2_with fail
            refine hC.mono ?_
            rintro e w2 ⟨rfl, hb2⟩
            go_wp2_with fail
            go_ret
            exact ⟨ret_bool Hv.out.symm, blw (blw (blw_alloc hb _) hb1) hb2⟩
        · have h6 : idXt l (k - 1) < l[k].id := by simpa using h5
          have h7 : decide (l[k].id ≤ idXt l (k - 1)) = false := by simp; omega
          clear h5
          obtain ⟨b', off', hbo, _, hp1, _, _, _, _, _, _⟩ := (hl.below hb).at_File (show k - 1 < l.length by omega)
          cases hbo
          rw [idXt_eq] at hp1
          have hk0 : 0 < k := by simpa using h2
          have hi1 : 1 ≤ (k : Int) := by omega
          have hi2 : (k : Int) - 1 < (l.length : Int) := by omega
          go_wp2_with fail
          refine wp_region_calm (by kernel_rfl) (by kernel_rfl) ?_
          repeat (go_big_quiet_step ((go_at_call 43; refine Calls.calm (IsFile_any l[k] _ hns))))
          refine wpQuiet_nil ?_
          rintro w1 ⟨x1, hW1⟩
          have hb1 := x1.h
          rw [← hW1] at hb1
          clear hW1 x1
          have hbx := (FileBox.new wr l[k] 47).below hb1
          have hlt2 := (((hlb.take (k := k)).alloc (Nat.le_refl _) (.cells #[.int .i64 l[k].id, .int .i64 l[k].series, .string l[k].title, .int .i64 l[k].opened, .int .i64 l[k].closed, .int .i64 l[k].state, .int .i64 l[k].pages] 47)).more (by simp)).below hb1 |>.more hb1.size
          have hC := ContainsFunc_File (some ⟨b, off, none⟩) c (l.take k) l[k] wr.heap.size w1 hlt2 (by rw [List.length_take]; omega) hbx
          rw [List.length_take, Nat.min_eq_left hk] at hC
          cases ha : (l.take k).any (sameX l[k])
          · rw [ha] at hC
            have Hv := Lib.hid (show fileAtB l k = true by rw [hv, ha]; rfl)
            clear hv ha hlt2 hbx
            go_wp2_with fail
            refine hC.mono ?_
            rintro e w2 ⟨rfl, hb2⟩
            go_wp2_with fail
            go_roundw
            case rel => exact ⟨k + 1, by omega, by go_num, blw (blw (blw_alloc hb _) hb1) hb2, fun j hj => by rcases Nat.lt_succ_iff_lt_or_eq.1 hj with h | rfl; exact hall.out _ h; exact Hv.out⟩
            case measure => simp [intOf]; omega
          · rw [ha] at hC
            have Hv := Lib.hid (filesB_bad k hlt (by rw [hv, ha]; rfl))
            clear hv ha hlt2 hbx
            go_wp2_with fail
            refine hC.mono ?_
            rintro e w2 ⟨rfl, hb2⟩
            go_wp2_with fail
            go_ret
            exact ⟨ret_bool Hv.out.symm, blw (blw (blw_alloc hb _) hb1) hb2⟩
    · have hkk : k = l.length := by omega
      subst hkk
      have Hv := Lib.hid (filesB_end hall.out)
      go_wp2_with fail
      go_ret
      exact ⟨ret_bool (by rw [Hv.out]; simp; omega), hb⟩

end Go.Proofs.YtlhihdcdbclcbaaDoor
