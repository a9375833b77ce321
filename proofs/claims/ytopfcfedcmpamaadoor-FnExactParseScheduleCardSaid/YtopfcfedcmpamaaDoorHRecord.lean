/- Contracts of the laws' helpers for a record. -/
import Derived.Test.YtopfcfedcmpamaaDoorHEvent
namespace Go.Proofs.YtopfcfedcmpamaaDoor
set_option linter.unusedVariables false
set_option linter.unusedSimpArgs false
open Go.RowKit
attribute [local go_sem] Aft.cell

/-- A record that a function has made of its own: its events in a block of its own. -/
def MadeRec (w : World) (id series made : Int) (l : List Ev) (e : Ending) (w' : World) : Prop :=
  ∃ g, w.heap.size ≤ g ∧ e = .returned (.agg #[.int .i64 id, .int .i64 series, .int .i64 made, .slice (some ⟨g, 0, none⟩) l.length l.length]) ∧ Own w' g 46 encEv 2 l ∧ Below w.heap.size w w'

set_option maxHeartbeats 400000 in
theorem eqRecord_any (id series made : Int) (A A' : Option Addr) (c c' : Nat) (l : List Ev) (w : World) (hl : Ls w w.heap.size encEv 2 A l) (hl' : Ls w w.heap.size encEv 2 A' l) (hn : l.length ≤ 9223372036854775807) :
    Calls Tryd.prog 8 #[.agg #[.int .i64 id, .int .i64 series, .int .i64 made, .slice A l.length c], .agg #[.int .i64 id, .int .i64 series, .int .i64 made, .slice A' l.length c']] w fun e w' => e = .returned (.bool true) ∧ Below w.heap.size w w' := by
  go_enter Tryd.func8, Tryd.ntmps8
  go_wp2_with fail
  refine (eqEventS_any _ _ _ _ l _ ((hl.alloc (Nat.le_refl _) _).alloc (by simp) _ |>.more (by simp; omega)) ((hl'.alloc (Nat.le_refl _) _).alloc (by simp) _ |>.more (by simp; omega)) hn).mono ?_
  rintro e w1 ⟨rfl, hb1⟩
  go_wp2_with fail
  go_ret
  exact ⟨rfl, blw (blw_alloc (blw_alloc (Below.refl _ _) _) _) hb1⟩

theorem Row1.alloc {w : World} {t : TypeId} {sz n : Nat} {A : Option Addr} (h : Row1 w t sz A n) (o : Obj) : Row1 (w.alloc o) t sz A n := fun hn => by
  obtain ⟨g, f, m, e, h1, h2⟩ := h hn
  exact ⟨g, f, m, e, h1.alloc o, h2⟩

set_option maxHeartbeats 400000 in
theorem markRecord_any (id series made : Int) (A : Option Addr) (c n : Nat) (k0 : Int) (w : World) (hr : Row1 w 46 2 A n) (hn : n ≤ 1048576) (h0 : 0 ≤ k0) (h1 : k0 ≤ 1099511627776) :
    Calls Tryd.prog 9 #[.agg #[.int .i64 id, .int .i64 series, .int .i64 made, .slice A n c], .int .i64 k0] w (MarkS w encEv 2 A (mkEvent k0 n) (k0 + 2 * (n : Int))) := by
  go_enter Tryd.func9, Tryd.ntmps9
  go_wp2_with fail
  refine (markEventS_any _ _ n _ _ (hr.alloc _) hn h0 h1).mono ?_
  rintro e w1 ⟨rfl, hw, hls⟩
  have Hls := Lib.hid hls
  clear hls
  go_wp2_with fail
  go_ret
  exact ⟨rfl, ((Wr.refl _ w).alloc _).trans hw, Hls.out⟩

set_option maxHeartbeats 400000 in
theorem heldRecord_any (id series made : Int) (A : Option Addr) (c n : Nat) (k0 : Int) (w : World) (hl : Ls w w.heap.size encEv 2 A (mkEvent k0 n)) (hn : n ≤ 1048576) (h0 : 0 ≤ k0) (h1 : k0 ≤ 1099511627776) :
    Calls Tryd.prog 10 #[.agg #[.int .i64 id, .int .i64 series, .int .i64 made, .slice A n c], .int .i64 k0] w fun e w' => e = .returned (.int .i64 (k0 + 2 * (n : Int))) ∧ Below w.heap.size w w' := by
  have hr0 : 0 ≤ k0 + 2 * (n : Int) := by omega
  go_enter Tryd.func10, Tryd.ntmps10
  go_wp2_with fail
  refine (heldEventS_any _ _ n _ _ ((hl.alloc (Nat.le_refl _) _).more (by simp)) hn h0 h1).mono ?_
  rintro e w1 ⟨rfl, rfl⟩
  go_wp2_with fail
  go_ret
  exact ⟨rfl, blw_alloc (Below.refl _ _) _⟩

end Go.Proofs.YtopfcfedcmpamaaDoor
