/- Contracts: the size of a list of files; the place of an Id; the place of an Id. -/
import Derived.Test.YtlhihdcdbclcbaaDoorD5
namespace Go.Proofs.YtlhihdcdbclcbaaDoor
set_option linter.unusedVariables false
set_option linter.unusedSimpArgs false
open Go.RowKit
attribute [local go_sem] Aft.cell

set_option maxHeartbeats 400000 in
theorem szFile_any (f : FileD) (left : Int) (w : World) (hn : f.title.size ≤ 9223372036854775807) (h0 : 0 ≤ left) (h1 : left ≤ 1048576) :
    Calls Tryd.prog 23 #[.agg #[.int .i64 f.id, .int .i64 f.series, .string f.title, .int .i64 f.opened, .int .i64 f.closed, .int .i64 f.state, .int .i64 f.pages], .int .i64 left] w fun e w' => e = .returned (.int .i64 (if (f.title.size : Int) ≤ left then left - f.title.size else -1)) ∧ Below w.heap.size w w' := by
  by_cases h : (f.title.size : Int) ≤ left
  · rw [if_pos h]
    go_enter Tryd.func23, Tryd.ntmps23
    go_wp2
    go_ret
    exact ⟨rfl, blw_alloc (Below.refl _ _) _⟩
  · rw [if_neg h]
    go_enter Tryd.func23, Tryd.ntmps23
    go_wp2
    go_ret
    exact ⟨rfl, blw_alloc (Below.refl _ _) _⟩

set_option maxHeartbeats 1000000 in
theorem szFileS_sz (A : Option Addr) (c : Nat) (l : List FileD) (left : Int) (w : World) (hl : Ls w w.heap.size encFile 7 A l) (hn : l.length ≤ maxLen) (hok : ∀ f ∈ l, okFile f) (h0 : 0 ≤ left) (h1 : left ≤ 1048576) :
    Calls Tryd.prog 6 #[.slice A l.length c, .int .i64 left] w (SzS w left (l.length ≤ 1048576 ∧ ∀ f ∈ l, f.title.size ≤ 1048576)) := by
  unfold maxLen at hn
  have hlen : (l.length : Int) ≤ 9223372036854775807 := by omega
  by_cases h : (l.length : Int) ≤ left
  · go_enter Tryd.func6, Tryd.ntmps6
    go_wp2_with fail
    go_loopw [1, 5] (fun lf i wr => ∃ (k : Nat) (r : Int), k ≤ l.length ∧ i = .int .i64 k ∧ lf = .int .i64 r ∧ 0 ≤ r ∧ r ≤ left ∧ Hid (∀ j (hj : j < l.length), j < k → l[j].title.size ≤ 1048576) ∧ Below w.heap.size w wr) (fun _ i _ => l.length - (intOf i).toNat)
    case atStart => exact ⟨0, left - l.length, Nat.zero_le _, rfl, rfl, by omega, by omega, fun j _ hj => absurd hj (Nat.not_lt_zero _), Below.refl _ _⟩
    case round =>
      obtain ⟨k, r, hk, rfl, rfl, hr0, hr1, hs, hb⟩ := hrel
      by_cases hlt : k < l.length
      · obtain ⟨b, off, rfl, hbb, hc0, hc1, hc2, hc3, hc4, hc5, hc6⟩ := (hl.below hb).at_File hlt
        have hml : l[k].title.size ≤ 9223372036854775807 := by have := (hok l[k] (List.getElem_mem hlt)).2.2; unfold maxLen at this; omega
        go_wp2_with fail
        refine (szFile_any l[k] r _ hml hr0 (by omega)).mono ?_
        by_cases hq : (l[k].title.size : Int) ≤ r
        · rw [if_pos hq]
          rintro e w1 ⟨rfl, hb1⟩
          have hq2 : 0 ≤ r - (l[k].title.size : Int) := by omega
          have hq3 : r - (l[k].title.size : Int) ≤ left := by omega
          go_wp2_with fail
          go_roundw
          case rel => exact ⟨k + 1, r - l[k].title.size, by omega, by go_num, rfl, hq2, hq3, fun j hj hjk => by rcases Nat.lt_succ_iff_lt_or_eq.1 hjk with h | rfl; exact hs.out j hj h; omega, blw hb hb1⟩
          case measure => simp [intOf]; omega
        · rw [if_neg hq]
          rintro e w1 ⟨rfl, hb1⟩
          go_wp2_with fail
          go_ret
          exact ⟨-1, rfl, by omega, by omega, fun h => absurd h (by omega), blw hb hb1⟩
      · have hkk : k = l.length := by omega
        subst hkk
        go_wp2_with fail
        go_ret
        exact ⟨r, rfl, hr1, by omega, fun _ => ⟨by omega, fun f hf => by obtain ⟨i, hi, rfl⟩ := List.mem_iff_getElem.1 hf; exact hs.out i hi hi⟩, hb⟩
  · go_enter Tryd.func6, Tryd.ntmps6
    go_wp2_with fail
    go_ret
    exact ⟨-1, rfl, by omega, by omega, fun h => absurd h (by omega), Below.refl _ _⟩

/-! The place of an Id. -/
set_option maxHeartbeats 400000 in
theorem fileAt1_any (f : FileD) (k : Int) (p : Nat) (w : World) (hp : w.cell? ⟨p, 0, none⟩ = some (.int .i64 k)) (hlt : p < w.heap.size) :
    Calls Tryd.prog 57 #[.agg #[.int .i64 f.id, .int .i64 f.series, .string f.title, .int .i64 f.opened, .int .i64 f.closed, .int .i64 f.state, .int .i64 f.pages], .pointer (some ⟨p, 0, none⟩)] w fun e w' => e = .returned (.bool (f.id == k)) ∧ Below w.heap.size w w' := by
  go_enter Tryd.func57, Tryd.ntmps57
  go_wp2_with fail
  go_ret
  exact ⟨rfl, blw_alloc (Below.refl _ _) _⟩

set_option maxHeartbeats 1000000 in
theorem IndexFunc_fileAt (A : Option Addr) (c : Nat) (l : List FileD) (k : Int) (p : Nat) (w : World) (hl : Ls w w.heap.size encFile 7 A l) (hm : l.length ≤ 9223372036854775807) (hp : w.cell? ⟨p, 0, none⟩ = some (.int .i64 k)) (hlt : p < w.heap.size) :
    Calls Tryd.prog 55 #[.slice A l.length c, .func (.func 57) #[] #[.pointer (some ⟨p, 0, none⟩)]] w fun e w' => e = .returned (.int .i64 (idxXI l k)) ∧ Below w.heap.size w w' := by
  have hlen : (l.length : Int) ≤ 9223372036854775807 := by omega
  go_enter Tryd.func55, Tryd.ntmps55
  go_wp2_with fail
  go_loopw [8] (fun i wr => ∃ j : Nat, j ≤ l.length ∧ i = .int .i64 j ∧ Below w.heap.size w wr ∧ Hid (∀ q (hq : q < l.length), q < j → l[q].id ≠ k)) (fun i _ => l.length - (intOf i).toNat)
  case atStart => exact ⟨0, Nat.zero_le _, rfl, Below.refl _ _, fun q _ hq => absurd hq (Nat.not_lt_zero _)⟩
  case round =>
    obtain ⟨j, hj, rfl, hb, hall⟩ := hrel
    have hp' := (hb.cell (p := ⟨_, _, _⟩) hlt).trans hp
    have hlt' : p < wr.heap.size := Nat.lt_of_lt_of_le hlt hb.size
    by_cases hjl : j < l.length
    · obtain ⟨b, off, rfl, hbb, hc0, hc1, hc2, hc3, hc4, hc5, hc6⟩ := (hl.below hb).at_File hjl
      cases hx : l[j].id == k
      · have Hx := Lib.hid (show l[j].id ≠ k by simpa using hx)
        go_wp2_with (go_at_call 57; refine (fileAt1_any l[j] k p _ hp' hlt').mono ?_; rw [hx]; rintro e w1 ⟨rfl, hb1⟩)
        go_roundw
        case rel => exact ⟨j + 1, by omega, by go_num, blw hb hb1, fun q hq hqj => by rcases Nat.lt_succ_iff_lt_or_eq.1 hqj with h | rfl; exact hall.out q hq h; exact Hx.out⟩
        case measure => simp [intOf]; omega
      · have Hx := Lib.hid (show l[j].id = k by simpa using hx)
        have Hv : Hid (idxXI l k = (j : Int)) := by
          unfold Hid idxXI
          rw [hasX_at j hjl Hx.out hall.out, idxX_at j hjl Hx.out hall.out]; rfl
        go_wp2_with (go_at_call 57; refine (fileAt1_any l[j] k p _ hp' hlt').mono ?_; rw [hx]; rintro e w1 ⟨rfl, hb1⟩)
        go_ret
        exact ⟨ret_int Hv.out.symm, blw hb hb1⟩
    · have hkk : j = l.length := by omega
      subst hkk
      have Hv : Hid (idxXI l k = -1) := by
        unfold Hid idxXI
        rw [hasX_none hall.out]; rfl
      go_wp2_with fail
      go_ret
      exact ⟨ret_int Hv.out.symm, hb⟩

set_option maxHeartbeats 400000 in
theorem fileAt_any (A : Option Addr) (c : Nat) (l : List FileD) (k : Int) (w : World) (hl : Ls w w.heap.size encFile 7 A l) (hm : l.length ≤ 9223372036854775807) :
    Calls Tryd.prog 49 #[.slice A l.length c, .int .i64 k] w fun e w' => e = .returned (.int .i64 (idxXI l k)) ∧ Below w.heap.size w w' := by
  go_enter Tryd.func49, Tryd.ntmps49
  go_wp2_with fail
  refine (IndexFunc_fileAt _ _ l k w.heap.size _ ((hl.alloc (Nat.le_refl _) _).more (by simp)) hm (by simp) (by simp)).mono ?_
  rintro e w1 ⟨rfl, hb1⟩
  go_wp2_with fail
  go_ret
  exact ⟨rfl, blw (blw_alloc (Below.refl _ _) _) hb1⟩

end Go.Proofs.YtlhihdcdbclcbaaDoor
