/- The law of IsFunction, walked. -/
import Derived.Test.YtfadofapbcoieaaDoorW3
namespace Go.Proofs.YtfadofapbcoieaaDoor
set_option linter.unusedVariables false
set_option linter.unusedSimpArgs false
open Go.RowKit
attribute [local go_sem] Aft.cell

set_option maxHeartbeats 400000 in
theorem szFunction_sz (x0 x1 : Int) (x2 : ByteArray) (left : Int) (w : World) (hn : x2.size ≤ maxLen) (h0 : 0 ≤ left) (h1 : left ≤ 1048576) :
    Calls Tryd.prog 14 #[.agg #[.int .i64 x0, .int .i64 x1, .string x2], .int .i64 left] w (SzS w left (x2.size ≤ 1048576)) := by
  unfold maxLen at hn
  by_cases h : (x2.size : Int) ≤ left
  · go_enter Tryd.func14, Tryd.ntmps14
    go_wp2
    go_ret
    exact ⟨_, rfl, by omega, by omega, fun _ => by omega, blw_alloc (Below.refl _ _) _⟩
  · go_enter Tryd.func14, Tryd.ntmps14
    go_wp2
    go_ret
    exact ⟨_, rfl, by omega, by omega, fun hh => by omega, blw_alloc (Below.refl _ _) _⟩

set_option maxHeartbeats 1000000 in
theorem walk_FnExactIsFunction (a0 : FnD) (w : World) (ok0 : okFn a0) :
    Calls Tryd.prog 3 #[.agg #[.int .i64 a0.id, .int .i64 a0.parent, .string a0.name]] w fun e w' => e = .returned (.bool true) ∧ Below w.heap.size w w' := by
  have hbx := FnBox.new w a0 23
  have hB := blw_alloc (Below.refl w.heap.size w) (.cells #[.int .i64 a0.id, .int .i64 a0.parent, .string a0.name] 23)
  go_enter Tryd.func3, Tryd.ntmps3
  go_wp2_with fail
  generalize (w.alloc (.cells #[.int .i64 a0.id, .int .i64 a0.parent, .string a0.name] 23)) = W0 at *
  refine (szFunction_sz _ _ _ _ _ ok0.2.2 (by omega) (by omega)).mono ?_
  rintro e w1 ⟨r1, rfl, hra, hrb, _, hb1⟩
  have hB1 := hB.trans (hb1.mono hB.size)
  obtain ⟨c0, c1, c2, cl⟩ := hbx.below hb1
  by_cases hneg : r1 < 0
  · go_wp2_with fail
    go_ret
    exact ⟨rfl, hB1⟩
  · go_wp2_with fail
    refine (toFunction_v _ _ _ _).mono ?_
    rintro e w2 ⟨rfl, hb2⟩
    have hB2 := blw hB1 hb2
    go_wp2_with fail
    refine (c_spec_IsFunction a0 _ ok0).mono ?_
    rintro e w3 ⟨rfl, hb3⟩
    have hB3 := blw hB2 hb3
    obtain ⟨d0, d1, d2, dl⟩ := ((hbx.below hb1).below hb2).below hb3
    clear c0 c1 c2
    go_wp2_with fail
    refine (toFunction_v _ _ _ _).mono ?_
    rintro e w4 ⟨rfl, hb4⟩
    have hB4 := blw hB3 hb4
    go_wp2_with fail
    refine (IsFunction_any a0 _ ok0.2.2).mono ?_
    rintro e w5 ⟨rfl, hb5⟩
    go_wp2_with fail
    go_ret
    exact ⟨rfl, blw hB4 hb5⟩

end Go.Proofs.YtfadofapbcoieaaDoor
