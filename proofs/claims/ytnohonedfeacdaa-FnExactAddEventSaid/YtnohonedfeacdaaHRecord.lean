/- Contracts of the laws' helpers for a record. -/
import Derived.Test.YtnohonedfeacdaaHEvent
namespace Go.Proofs.Ytnohonedfeacdaa
set_option linter.unusedVariables false
set_option linter.unusedSimpArgs false
open Go.RowKit
attribute [local go_sem] Aft.cell

/-- A record that a function has made of its own: its events in a block of its own. -/
def MadeRec (w : World) (id series made : Int) (l : List Ev) (e : Ending) (w' : World) : Prop :=
  ∃ g, w.heap.size ≤ g ∧ e = .returned (.agg #[.int .i64 id, .int .i64 series, .int .i64 made, .slice (some ⟨g, 0, none⟩) l.length l.length]) ∧ Own w' g 34 encEv 2 l ∧ Below w.heap.size w w'

set_option maxHeartbeats 400000 in
theorem szEventS_any (A : Option Addr) (c n : Nat) (left : Int) (w : World) (hn : n ≤ maxLen) (h0 : 0 ≤ left) (h1 : left ≤ 1048576) :
    Calls Try.prog 21 #[.slice A n c, .int .i64 left] w fun e w' => e = .returned (.int .i64 (if (n : Int) ≤ left then left - n else -1)) ∧ w = w' := by
  unfold maxLen at hn
  by_cases h : (n : Int) ≤ left
  · go_enter Try.func21, Try.ntmps21
    go_wp2
    go_ret
    exact ⟨rfl, rfl⟩
  · go_enter Try.func21, Try.ntmps21
    go_wp2
    go_ret
    exact ⟨rfl, rfl⟩

set_option maxHeartbeats 400000 in
theorem szRecord_any (id series made : Int) (A : Option Addr) (c n : Nat) (left : Int) (w : World) (hn : n ≤ maxLen) (h0 : 0 ≤ left) (h1 : left ≤ 1048576) :
    Calls Try.prog 5 #[.agg #[.int .i64 id, .int .i64 series, .int .i64 made, .slice A n c], .int .i64 left] w fun e w' => e = .returned (.int .i64 (if (n : Int) ≤ left then left - n else -1)) ∧ Below w.heap.size w w' := by
  by_cases h : (n : Int) ≤ left
  · go_enter Try.func5, Try.ntmps5
    go_wp2_with (go_at_call 21; refine (szEventS_any _ _ _ _ _ hn h0 h1).mono ?_; rw [if_pos h]; rintro e w' ⟨rfl, rfl⟩)
    go_ret
    exact ⟨rfl, blw_alloc (Below.refl _ _) _⟩
  · go_enter Try.func5, Try.ntmps5
    go_wp2_with (go_at_call 21; refine (szEventS_any _ _ _ _ _ hn h0 h1).mono ?_; rw [if_neg h]; rintro e w' ⟨rfl, rfl⟩)
    go_ret
    exact ⟨rfl, blw_alloc (Below.refl _ _) _⟩

set_option maxHeartbeats 400000 in
theorem toRecord_any (id series made : Int) (A : Option Addr) (c : Nat) (l : List Ev) (w : World) (hl : Ls w w.heap.size encEv 2 A l) (hn : l.length ≤ 1048576) :
    Calls Try.prog 7 #[.agg #[.int .i64 id, .int .i64 series, .int .i64 made, .slice A l.length c]] w (MadeRec w id series made l) := by
  go_enter Try.func7, Try.ntmps7
  go_wp2_with fail
  refine (toEventS_any _ _ l _ (((hl.alloc (Nat.le_refl _) _).alloc (by simp) _).alloc (by simp; omega) _ |>.more (by simp; omega)) hn).mono ?_
  rintro e w1 ⟨g, hg, rfl, hown, hb1⟩
  obtain ⟨hc1, hf1⟩ := bcell hb1
  have hz1 : w.heap.size + 1 + 1 < w1.heap.size := by have := hb1.size; simp at this; omega
  go_wp2_with fail
  simp at hg
  refine bodyPost_ret (v := .agg #[.int .i64 id, .int .i64 series, .int .i64 made, .slice (some ⟨g, 0, none⟩) l.length l.length]) (by simp [results, Try.results7, go_sem, hc1, hz1, show w.heap.size < w1.heap.size by omega, show w.heap.size + 1 < w1.heap.size by omega]) rfl ?_
  refine ⟨g, by omega, rfl, ?_, ?_⟩
  · refine (((((hown.far ?_ _).far ?_ _).far ?_ _).far ?_ _).far ?_ _)
    all_goals (simp; omega)
  · have h1 := blw (blw_alloc (blw_alloc (blw_alloc (Below.refl _ w) _) _) _) hb1
    refine (((((h1.setCell ?_ _).setCell ?_ _).setCell ?_ _).setCell ?_ _).setCell ?_ _)
    all_goals (simp; try omega)

set_option maxHeartbeats 400000 in
theorem eqRecord_any (id series made : Int) (A A' : Option Addr) (c c' : Nat) (l : List Ev) (w : World) (hl : Ls w w.heap.size encEv 2 A l) (hl' : Ls w w.heap.size encEv 2 A' l) (hn : l.length ≤ 9223372036854775807) :
    Calls Try.prog 10 #[.agg #[.int .i64 id, .int .i64 series, .int .i64 made, .slice A l.length c], .agg #[.int .i64 id, .int .i64 series, .int .i64 made, .slice A' l.length c']] w fun e w' => e = .returned (.bool true) ∧ Below w.heap.size w w' := by
  go_enter Try.func10, Try.ntmps10
  go_wp2_with fail
  refine (eqEventS_any _ _ _ _ l _ ((hl.alloc (Nat.le_refl _) _).alloc (by simp) _ |>.more (by simp; omega)) ((hl'.alloc (Nat.le_refl _) _).alloc (by simp) _ |>.more (by simp; omega)) hn).mono ?_
  rintro e w1 ⟨rfl, hb1⟩
  go_wp2_with fail
  go_ret
  exact ⟨rfl, blw (blw_alloc (blw_alloc (Below.refl _ _) _) _) hb1⟩

theorem szRecord_sz (id series made : Int) (A : Option Addr) (c n : Nat) (left : Int) (w : World) (hn : n ≤ maxLen) (h0 : 0 ≤ left) (h1 : left ≤ 1048576) :
    Calls Try.prog 5 #[.agg #[.int .i64 id, .int .i64 series, .int .i64 made, .slice A n c], .int .i64 left] w (SzS w left (n ≤ 1048576)) := by
  refine (szRecord_any id series made A c n left w hn h0 h1).mono ?_
  rintro e w' ⟨rfl, hb⟩
  refine ⟨_, rfl, ?_, ?_, ?_, hb⟩
  · split <;> omega
  · split <;> omega
  · split <;> omega

theorem Row1.alloc {w : World} {t : TypeId} {sz n : Nat} {A : Option Addr} (h : Row1 w t sz A n) (o : Obj) : Row1 (w.alloc o) t sz A n := fun hn => by
  obtain ⟨g, f, m, e, h1, h2⟩ := h hn
  exact ⟨g, f, m, e, h1.alloc o, h2⟩

set_option maxHeartbeats 400000 in
theorem markRecord_any (id series made : Int) (A : Option Addr) (c n : Nat) (k0 : Int) (w : World) (hr : Row1 w 34 2 A n) (hn : n ≤ 1048576) (h0 : 0 ≤ k0) (h1 : k0 ≤ 1099511627776) :
    Calls Try.prog 11 #[.agg #[.int .i64 id, .int .i64 series, .int .i64 made, .slice A n c], .int .i64 k0] w (MarkS w encEv 2 A (mkEvent k0 n) (k0 + 2 * (n : Int))) := by
  go_enter Try.func11, Try.ntmps11
  go_wp2_with fail
  refine (markEventS_any _ _ n _ _ (hr.alloc _) hn h0 h1).mono ?_
  rintro e w1 ⟨rfl, hw, hls⟩
  have Hls := Lib.hid hls
  clear hls
  go_wp2_with fail
  go_ret
  exact ⟨rfl, ((Wr.refl _ w).alloc _).trans hw, Hls.out⟩

set_option maxHeartbeats 400000 in
theorem heldRecord_any (id series made : Int) (A : Option Addr) (c n : Nat) (k0 : Int) (w : World) (hl : Ls w w.heap.size encEv 2 A (mkEvent k0 n)) (hn : n ≤ 1048576) (h0 : 0 ≤ k0) (h1 : k0 ≤ 1099511627776) :
    Calls Try.prog 12 #[.agg #[.int .i64 id, .int .i64 series, .int .i64 made, .slice A n c], .int .i64 k0] w fun e w' => e = .returned (.int .i64 (k0 + 2 * (n : Int))) ∧ Below w.heap.size w w' := by
  have hr0 : 0 ≤ k0 + 2 * (n : Int) := by omega
  go_enter Try.func12, Try.ntmps12
  go_wp2_with fail
  refine (heldEventS_any _ _ n _ _ ((hl.alloc (Nat.le_refl _) _).more (by simp)) hn h0 h1).mono ?_
  rintro e w1 ⟨rfl, rfl⟩
  go_wp2_with fail
  go_ret
  exact ⟨rfl, blw_alloc (Below.refl _ _) _⟩

end Go.Proofs.Ytnohonedfeacdaa
