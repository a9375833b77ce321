/- Contracts: the size of a list of functions; the place of an Id; IsTree. -/
import Derived.Test.YtnjgnehiclkkoaaDoorD3
namespace Go.Proofs.YtnjgnehiclkkoaaDoor
set_option linter.unusedVariables false
set_option linter.unusedSimpArgs false
open Go.RowKit
attribute [local go_sem] Aft.cell

set_option maxHeartbeats 400000 in
theorem szFunction_any (f : FnD) (left : Int) (w : World) (hn : f.name.size ≤ 9223372036854775807) (h0 : 0 ≤ left) (h1 : left ≤ 1048576) :
    Calls Tryd.prog 29 #[.agg #[.int .i64 f.id, .int .i64 f.parent, .string f.name], .int .i64 left] w fun e w' => e = .returned (.int .i64 (if (f.name.size : Int) ≤ left then left - f.name.size else -1)) ∧ Below w.heap.size w w' := by
  by_cases h : (f.name.size : Int) ≤ left
  · rw [if_pos h]
    go_enter Tryd.func29, Tryd.ntmps29
    go_wp2
    go_ret
    exact ⟨rfl, blw_alloc (Below.refl _ _) _⟩
  · rw [if_neg h]
    go_enter Tryd.func29, Tryd.ntmps29
    go_wp2
    go_ret
    exact ⟨rfl, blw_alloc (Below.refl _ _) _⟩

set_option maxHeartbeats 1000000 in
theorem szFunctionS_sz (A : Option Addr) (c : Nat) (l : List FnD) (left : Int) (w : World) (hl : Ls w w.heap.size encFn 3 A l) (hn : l.length ≤ maxLen) (hok : ∀ f ∈ l, okFn f) (h0 : 0 ≤ left) (h1 : left ≤ 1048576) :
    Calls Tryd.prog 9 #[.slice A l.length c, .int .i64 left] w (SzS w left (l.length ≤ 1048576 ∧ ∀ f ∈ l, f.name.size ≤ 1048576)) := by
  unfold maxLen at hn
  have hlen : (l.length : Int) ≤ 9223372036854775807 := by omega
  by_cases h : (l.length : Int) ≤ left
  · go_enter Tryd.func9, Tryd.ntmps9
    go_wp2_with fail
    go_loopw [1, 5] (fun lf i wr => ∃ (k : Nat) (r : Int), k ≤ l.length ∧ i = .int .i64 k ∧ lf = .int .i64 r ∧ 0 ≤ r ∧ r ≤ left ∧ Hid (∀ j (hj : j < l.length), j < k → l[j].name.size ≤ 1048576) ∧ Below w.heap.size w wr) (fun _ i _ => l.length - (intOf i).toNat)
    case atStart => exact ⟨0, left - l.length, Nat.zero_le _, rfl, rfl, by omega, by omega, fun j _ hj => absurd hj (Nat.not_lt_zero _), Below.refl _ _⟩
    case round =>
      obtain ⟨k, r, hk, rfl, rfl, hr0, hr1, hs, hb⟩ := hrel
      by_cases hlt : k < l.length
      · obtain ⟨b, off, rfl, hbb, hc0, hc1, hc2⟩ := (hl.below hb).at_Function hlt
        have hml : l[k].name.size ≤ 9223372036854775807 := by have := (hok l[k] (List.getElem_mem hlt)).2.2; unfold maxLen at this; omega
        go_wp2_with fail
        refine (szFunction_any l[k] r _ hml hr0 (by omega)).mono ?_
        by_cases hq : (l[k].name.size : Int) ≤ r
        · rw [if_pos hq]
          rintro e w1 ⟨rfl, hb1⟩
          have hq2 : 0 ≤ r - (l[k].name.size : Int) := by omega
          have hq3 : r - (l[k].name.size : Int) ≤ left := by omega
          go_wp2_with fail
          go_roundw
          case rel => exact ⟨k + 1, r - l[k].name.size, by omega, by go_num, rfl, hq2, hq3, fun j hj hjk => by rcases Nat.lt_succ_iff_lt_or_eq.1 hjk with h | rfl; exact hs.out j hj h; omega, blw hb hb1⟩
          case measure => simp [intOf]; omega
        · rw [if_neg hq]
          rintro e w1 ⟨rfl, hb1⟩
          go_wp2_with fail
          go_ret
          exact ⟨-1, rfl, by omega, by omega, fun h => absurd h (by omega), blw hb hb1⟩
      · have hkk : k = l.length := by omega
        subst hkk
        go_wp2_with fail
        go_ret
        exact ⟨r, rfl, hr1, by omega, fun _ => ⟨by omega, fun f hf => by obtain ⟨i, hi, rfl⟩ := List.mem_iff_getElem.1 hf; exact hs.out i hi hi⟩, hb⟩
  · go_enter Tryd.func9, Tryd.ntmps9
    go_wp2_with fail
    go_ret
    exact ⟨-1, rfl, by omega, by omega, fun h => absurd h (by omega), Below.refl _ _⟩

/-! The place of an Id. -/
set_option maxHeartbeats 400000 in
theorem functionAt1_any (f : FnD) (k : Int) (p : Nat) (w : World) (hp : w.cell? ⟨p, 0, none⟩ = some (.int .i64 k)) (hlt : p < w.heap.size) :
    Calls Tryd.prog 49 #[.agg #[.int .i64 f.id, .int .i64 f.parent, .string f.name], .pointer (some ⟨p, 0, none⟩)] w fun e w' => e = .returned (.bool (f.id == k)) ∧ Below w.heap.size w w' := by
  go_enter Tryd.func49, Tryd.ntmps49
  go_wp2_with fail
  go_ret
  exact ⟨rfl, blw_alloc (Below.refl _ _) _⟩

set_option maxHeartbeats 1000000 in
theorem IndexFunc_functionAt (A : Option Addr) (c : Nat) (l : List FnD) (k : Int) (p : Nat) (w : World) (hl : Ls w w.heap.size encFn 3 A l) (hm : l.length ≤ 9223372036854775807) (hp : w.cell? ⟨p, 0, none⟩ = some (.int .i64 k)) (hlt : p < w.heap.size) :
    Calls Tryd.prog 48 #[.slice A l.length c, .func (.func 49) #[] #[.pointer (some ⟨p, 0, none⟩)]] w fun e w' => e = .returned (.int .i64 (idxFI l k)) ∧ Below w.heap.size w w' := by
  have hlen : (l.length : Int) ≤ 9223372036854775807 := by omega
  go_enter Tryd.func48, Tryd.ntmps48
  go_wp2_with fail
  go_loopw [8] (fun i wr => ∃ j : Nat, j ≤ l.length ∧ i = .int .i64 j ∧ Below w.heap.size w wr ∧ Hid (∀ q (hq : q < l.length), q < j → l[q].id ≠ k)) (fun i _ => l.length - (intOf i).toNat)
  case atStart => exact ⟨0, Nat.zero_le _, rfl, Below.refl _ _, fun q _ hq => absurd hq (Nat.not_lt_zero _)⟩
  case round =>
    obtain ⟨j, hj, rfl, hb, hall⟩ := hrel
    have hp' := (hb.cell (p := ⟨_, _, _⟩) hlt).trans hp
    have hlt' : p < wr.heap.size := Nat.lt_of_lt_of_le hlt hb.size
    by_cases hjl : j < l.length
    · obtain ⟨b, off, rfl, hbb, hc0, hc1, hc2⟩ := (hl.below hb).at_Function hjl
      cases hx : l[j].id == k
      · have Hx := Lib.hid (show l[j].id ≠ k by simpa using hx)
        go_wp2_with (go_at_call 49; refine (functionAt1_any l[j] k p _ hp' hlt').mono ?_; rw [hx]; rintro e w1 ⟨rfl, hb1⟩)
        go_roundw
        case rel => exact ⟨j + 1, by omega, by go_num, blw hb hb1, fun q hq hqj => by rcases Nat.lt_succ_iff_lt_or_eq.1 hqj with h | rfl; exact hall.out q hq h; exact Hx.out⟩
        case measure => simp [intOf]; omega
      · have Hx := Lib.hid (show l[j].id = k by simpa using hx)
        have Hv : Hid (idxFI l k = (j : Int)) := by
          unfold Hid idxFI
          rw [hasF_at j hjl Hx.out hall.out, idxF_at j hjl Hx.out hall.out]; rfl
        go_wp2_with (go_at_call 49; refine (functionAt1_any l[j] k p _ hp' hlt').mono ?_; rw [hx]; rintro e w1 ⟨rfl, hb1⟩)
        go_ret
        exact ⟨ret_int Hv.out.symm, blw hb hb1⟩
    · have hkk : j = l.length := by omega
      subst hkk
      have Hv : Hid (idxFI l k = -1) := by
        unfold Hid idxFI
        rw [hasF_none hall.out]; rfl
      go_wp2_with fail
      go_ret
      exact ⟨ret_int Hv.out.symm, hb⟩

set_option maxHeartbeats 400000 in
theorem functionAt_any (A : Option Addr) (c : Nat) (l : List FnD) (k : Int) (w : World) (hl : Ls w w.heap.size encFn 3 A l) (hm : l.length ≤ 9223372036854775807) :
    Calls Tryd.prog 37 #[.slice A l.length c, .int .i64 k] w fun e w' => e = .returned (.int .i64 (idxFI l k)) ∧ Below w.heap.size w w' := by
  go_enter Tryd.func37, Tryd.ntmps37
  go_wp2_with fail
  refine (IndexFunc_functionAt _ _ l k w.heap.size _ ((hl.alloc (Nat.le_refl _) _).more (by simp)) hm (by simp) (by simp)).mono ?_
  rintro e w1 ⟨rfl, hb1⟩
  go_wp2_with fail
  go_ret
  exact ⟨rfl, blw (blw_alloc (Below.refl _ _) _) hb1⟩

set_option maxHeartbeats 1000000 in
theorem l3Find_any (A : Option Addr) (c : Nat) (l : List FnD) (k : Int) (w : World) (hl : Ls w w.heap.size encFn 3 A l) (hm : l.length ≤ 9223372036854775807) :
    Calls Tryd.prog 36 #[.slice A l.length c, .int .i64 k] w fun e w' => e = .returned (.int .i64 (idxFI l k)) ∧ Below w.heap.size w w' := by
  have hlen : (l.length : Int) ≤ 9223372036854775807 := by omega
  go_enter Tryd.func36, Tryd.ntmps36
  go_wp2_with fail
  go_loop [5] (fun i => ∃ j : Nat, j ≤ l.length ∧ i = .int .i64 j ∧ Hid (∀ q (hq : q < l.length), q < j → l[q].id ≠ k)) (fun i => l.length - (intOf i).toNat)
  case atStart => exact ⟨0, Nat.zero_le _, rfl, fun q _ hq => absurd hq (Nat.not_lt_zero _)⟩
  case round =>
    obtain ⟨j, hj, rfl, hall⟩ := hrel
    by_cases hjl : j < l.length
    · obtain ⟨b, off, rfl, hbb, hc0, hc1, hc2⟩ := hl.at_Function hjl
      cases hx : l[j].id == k
      · have Hx := Lib.hid (show l[j].id ≠ k by simpa using hx)
        go_wp2_with fail
        go_round
        case rel => exact ⟨j + 1, by omega, by go_num, fun q hq hqj => by rcases Nat.lt_succ_iff_lt_or_eq.1 hqj with h | rfl; exact hall.out q hq h; exact Hx.out⟩
        case measure => simp [intOf]; omega
      · have Hx := Lib.hid (show l[j].id = k by simpa using hx)
        have Hv : Hid (idxFI l k = (j : Int)) := by
          unfold Hid idxFI
          rw [hasF_at j hjl Hx.out hall.out, idxF_at j hjl Hx.out hall.out]; rfl
        go_wp2_with fail
        go_ret
        exact ⟨ret_int Hv.out.symm, Below.refl _ _⟩
    · have hkk : j = l.length := by omega
      subst hkk
      have Hv : Hid (idxFI l k = -1) := by
        unfold Hid idxFI
        rw [hasF_none hall.out]; rfl
      go_wp2_with fail
      go_ret
      exact ⟨ret_int Hv.out.symm, Below.refl _ _⟩

end Go.Proofs.YtnjgnehiclkkoaaDoor
