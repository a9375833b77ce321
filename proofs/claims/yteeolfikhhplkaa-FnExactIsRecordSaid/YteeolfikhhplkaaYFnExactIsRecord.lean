/- The law of IsRecord, walked. -/
import Derived.Test.YteeolfikhhplkaaW2
import Derived.Test.YteeolfikhhplkaaHRecord
import Derived.Deep.RegionHeld3
namespace Go.Proofs.Yteeolfikhhplkaa
set_option linter.unusedVariables false
set_option linter.unusedSimpArgs false
open Go.RowKit
attribute [local go_sem] Aft.cell

set_option maxHeartbeats 1000000 in
theorem walk_FnExactIsRecord (a : Rec) (w : World) (ha : okRec w a) :
    Calls Try.prog 8 #[.agg #[.int .i64 a.id, .int .i64 a.series, .int .i64 a.made, .slice a.A a.evs.length a.c]] w fun e w' => e = .returned (.bool true) ∧ Below w.heap.size w w' := by
  obtain ⟨_, _, _, hl, _, hmx⟩ := ha
  have hmx' : a.evs.length ≤ 9223372036854775807 := by unfold maxLen at hmx; omega
  go_enter Try.func8, Try.ntmps8
  go_wp2_with fail
  by_cases hle : (a.evs.length : Int) ≤ 1048576
  · have h0 := blw_alloc (Below.refl w.heap.size w) (.cells #[.int .i64 a.id, .int .i64 a.series, .int .i64 a.made, .slice a.A a.evs.length a.c] 41)
    refine (szRecord_any _ _ _ _ _ _ _ _ hmx (by omega) (by omega)).mono ?_
    rw [if_pos hle]
    rintro e w1 ⟨rfl, hb1⟩
    obtain ⟨hc1, hf1⟩ := bcell hb1
    have h1 := blw h0 hb1
    have hz1 : w.heap.size < w1.heap.size := by have := hb1.size; simp at this; omega
    go_wp2_with fail
    refine (toRecord_any _ _ _ _ _ a.evs _ ((hl.below h1).more h1.size) (by omega)).mono ?_
    rintro e w2 ⟨g2, hg2, rfl, ho2, hb2⟩
    obtain ⟨hc2, hf2⟩ := bcell hb2
    have h2 := blw h1 hb2
    have hz2 : w.heap.size < w2.heap.size := by have := hb2.size; omega
    go_wp2_with fail
    refine (specIsRecord_any _ _ _ _ _ a.evs _ (ho2.ls encEv_len) hmx').mono ?_
    rintro e w3 ⟨rfl, hb3⟩
    obtain ⟨hc3, hf3⟩ := bcell hb3
    have h3 := blw h2 hb3
    have hz3 : w.heap.size < w3.heap.size := by have := hb3.size; omega
    go_wp2_with fail
    refine (toRecord_any _ _ _ _ _ a.evs _ ((hl.below h3).more h3.size) (by omega)).mono ?_
    rintro e w4 ⟨g4, hg4, rfl, ho4, hb4⟩
    obtain ⟨hc4, hf4⟩ := bcell hb4
    have h4 := blw h3 hb4
    have hz4 : w.heap.size < w4.heap.size := by have := hb4.size; omega
    go_wp2_with fail
    refine (IsRecord_any _ _ _ _ _ a.evs _ ((ho4.alloc _).ls encEv_len) hmx').mono ?_
    rintro e w5 ⟨rfl, hb5⟩
    obtain ⟨hc5, hf5⟩ := bcell hb5
    have h5 := blw (blw_alloc h4 _) hb5
    have hz5 : w.heap.size < w5.heap.size := by have := hb5.size; simp at this; omega
    have hx0 : w5.cell? ⟨w4.heap.size, 0, none⟩ = some (.int .i64 a.id) := (hc5 _ _ (by simp)).trans (by simp)
    have hx1 : w5.cell? ⟨w4.heap.size, 1, none⟩ = some (.int .i64 a.series) := (hc5 _ _ (by simp)).trans (by simp)
    have hx2 : w5.cell? ⟨w4.heap.size, 2, none⟩ = some (.int .i64 a.made) := (hc5 _ _ (by simp)).trans (by simp)
    have hx3 : w5.cell? ⟨w4.heap.size, 3, none⟩ = some (.slice (some ⟨g4, 0, none⟩) a.evs.length a.evs.length) := (hc5 _ _ (by simp)).trans (by simp)
    have hb5w : w4.heap.size < w5.heap.size := by have := hb5.size; simp at this; omega
    have ho5 := (ho4.alloc (.cells #[.int .i64 a.id, .int .i64 a.series, .int .i64 a.made, .slice (some ⟨g4, 0, none⟩) a.evs.length a.evs.length] 46)).below hb5 (by have := ho4.lt; simp; omega)
    have ha0 : w5.cell? ⟨w.heap.size, 0, none⟩ = some (.int .i64 a.id) := (hc5 _ _ (by simp; omega)).trans (by simp [World.cell?_alloc_lt, hc4, hc3, hc2, hc1, hz1, hz2, hz3, hz4])
    have ha1 : w5.cell? ⟨w.heap.size, 1, none⟩ = some (.int .i64 a.series) := (hc5 _ _ (by simp; omega)).trans (by simp [World.cell?_alloc_lt, hc4, hc3, hc2, hc1, hz1, hz2, hz3, hz4])
    have ha2 : w5.cell? ⟨w.heap.size, 2, none⟩ = some (.int .i64 a.made) := (hc5 _ _ (by simp; omega)).trans (by simp [World.cell?_alloc_lt, hc4, hc3, hc2, hc1, hz1, hz2, hz3, hz4])
    have ha3 : w5.cell? ⟨w.heap.size, 3, none⟩ = some (.slice a.A a.evs.length a.c) := (hc5 _ _ (by simp; omega)).trans (by simp [World.cell?_alloc_lt, hc4, hc3, hc2, hc1, hz1, hz2, hz3, hz4])
    have ho5d : Own w5.drew g4 27 encEv 2 a.evs := ho5
    have hk5 : Hid (∀ W, Below w5.heap.size w5 W → W.cell? ⟨w4.heap.size, 0, none⟩ = some (.int .i64 a.id) ∧ W.cell? ⟨w4.heap.size, 1, none⟩ = some (.int .i64 a.series) ∧ W.cell? ⟨w4.heap.size, 2, none⟩ = some (.int .i64 a.made) ∧ W.cell? ⟨w4.heap.size, 3, none⟩ = some (.slice (some ⟨g4, 0, none⟩) a.evs.length a.evs.length) ∧ W.cell? ⟨w.heap.size, 0, none⟩ = some (.int .i64 a.id) ∧ W.cell? ⟨w.heap.size, 1, none⟩ = some (.int .i64 a.series) ∧ W.cell? ⟨w.heap.size, 2, none⟩ = some (.int .i64 a.made) ∧ W.cell? ⟨w.heap.size, 3, none⟩ = some (.slice a.A a.evs.length a.c)) := fun W hb => ⟨(hb.cell (p := ⟨_, _, _⟩) hb5w).trans hx0, (hb.cell (p := ⟨_, _, _⟩) hb5w).trans hx1, (hb.cell (p := ⟨_, _, _⟩) hb5w).trans hx2, (hb.cell (p := ⟨_, _, _⟩) hb5w).trans hx3, (hb.cell (p := ⟨_, _, _⟩) hz5).trans ha0, (hb.cell (p := ⟨_, _, _⟩) hz5).trans ha1, (hb.cell (p := ⟨_, _, _⟩) hz5).trans ha2, (hb.cell (p := ⟨_, _, _⟩) hz5).trans ha3⟩
    clear hc1 hc2 hc3 hc4 hc5 hf1 hf2 hf3 hf4 hf5
    go_wp2_with fail
    go_region_held3 (fun W => W.cell? ⟨w4.heap.size, 0, none⟩ = some (.int .i64 a.id) ∧ W.cell? ⟨w4.heap.size, 1, none⟩ = some (.int .i64 a.series) ∧ W.cell? ⟨w4.heap.size, 2, none⟩ = some (.int .i64 a.made) ∧ W.cell? ⟨w4.heap.size, 3, none⟩ = some (.slice (some ⟨g4, 0, none⟩) a.evs.length a.evs.length) ∧ W.cell? ⟨w.heap.size, 0, none⟩ = some (.int .i64 a.id) ∧ W.cell? ⟨w.heap.size, 1, none⟩ = some (.int .i64 a.series) ∧ W.cell? ⟨w.heap.size, 2, none⟩ = some (.int .i64 a.made) ∧ W.cell? ⟨w.heap.size, 3, none⟩ = some (.slice a.A a.evs.length a.c))
      (first | exact hk5.out _ (Below.refl _ w5).drew | exact hk5.out _ ((Below.refl _ w5).drew.trans hb6) | exact hk5.out _ (blw ((Below.refl _ w5).drew.trans hb6) hb7))
      (first | (go_at_call 21; refine (toRecord_any _ _ _ _ _ a.evs _ ((hl.below h5.drew).more h5.size) (by omega)).mono ?_; rintro e w6 ⟨g6, hg6, rfl, ho6, hb6⟩) | (go_at_call 23; refine (eqRecord_any _ _ _ _ _ _ _ a.evs _ ((ho5d.below hb6 ho5d.lt).ls encEv_len) (ho6.ls encEv_len) hmx').mono ?_; rintro e w7 ⟨rfl, hb7⟩))
    go_wp2_with fail
    go_ret
    exact ⟨rfl, blw (blw h5.drew hb6) hb7⟩
  · refine (szRecord_any _ _ _ _ _ _ _ _ hmx (by omega) (by omega)).mono ?_
    rw [if_neg hle]
    rintro e w1 ⟨rfl, hb1⟩
    go_wp2_with fail
    go_ret
    exact ⟨rfl, blw (blw_alloc (Below.refl w.heap.size w) _) hb1⟩

end Go.Proofs.Yteeolfikhhplkaa
