/- The law of AreRecords, walked. -/
import Derived.Test.YtoohbpaheeckpaaW2r
namespace Go.Proofs.Ytoohbpaheeckpaa
set_option linter.unusedVariables false
set_option linter.unusedSimpArgs false
open Go.RowKit
attribute [local go_sem] Aft.cell

theorem evr_of_ok {w : World} {l : List Rec} (h : ∀ a ∈ l, okRec w a) : EvR w l := fun r hr => (h r hr).2.2.2.1

set_option maxHeartbeats 400000 in
theorem walk_FnExactAreRecords (A0 : Option Addr) (c0 : Nat) (a0 : List Rec) (w : World) (ok0 : okSl w encRec 4 (okRec w) A0 a0) :
    Calls Try.prog 3 #[.slice A0 a0.length c0] w fun e w' => e = .returned (.bool true) ∧ Below w.heap.size w w' := by
  obtain ⟨hl0, hok0, hmx0⟩ := ok0
  have he0 := evr_of_ok hok0
  go_enter Try.func3, Try.ntmps3
  have h0 : Below w.heap.size w w := Below.refl _ _
  go_wp2_with fail
  refine (szRecordS_sz _ _ a0 _ _ hl0 hmx0 (fun r hr => (hok0 r hr).2.2.2.2.2) (by omega) (by omega)).mono ?_
  rintro e w1 ⟨r1, rfl, hra1, hrb1, hrp1, hb1⟩
  have h1 := blw h0 hb1
  by_cases hneg1 : r1 < 0
  · clear hrp1
    go_wp2_with fail
    go_ret
    exact ⟨rfl, h1⟩
  have hn0 := hrp1 (by omega)
  clear hrp1
  have hnn1 : ¬ r1 < 0 := hneg1
  go_wp2_with fail
  refine (toRecordS_any _ _ a0 _ ((hl0.below h1).more h1.size) (fun r hr => ((he0 r hr).below h1).more h1.size) hn0).mono ?_
  rintro e w2 ⟨g_s, l_s, gl_s, ln_s, d_s, rfl, o_s, v_s, hb2⟩
  have h2 := blw h1 hb2
  have hC2 := c_spec_AreRecords (some ⟨g_s, 0, none⟩) a0.length l_s w2 (o_s.ls encRec_len) v_s.evr (by have := totR_dat d_s; omega)
  rw [ln_s, recsB_dat d_s] at hC2
  clear ln_s d_s o_s v_s
  go_wp2_with fail
  refine hC2.mono ?_
  rintro e w3 ⟨rfl, hb3⟩
  have h3 := blw h2 hb3
  clear hC2
  go_wp2_with fail
  refine (toRecordS_any _ _ a0 _ ((hl0.below h3).more h3.size) (fun r hr => ((he0 r hr).below h3).more h3.size) hn0).mono ?_
  rintro e w4 ⟨g_x, l_x, gl_x, ln_x, d_x, rfl, o_x, v_x, hb4⟩
  have h4 := blw h3 hb4
  have hC4 := AreRecords_any (some ⟨g_x, 0, none⟩) a0.length l_x w4 (o_x.ls encRec_len) v_x.evr (by have := totR_dat d_x; omega)
  rw [ln_x, recsB_dat d_x] at hC4
  have Ln_x := Lib.hid ln_x
  have D_x := Lib.hid d_x
  clear ln_x d_x
  go_wp2_with fail
  refine hC4.mono ?_
  rintro e w5 ⟨rfl, hb5⟩
  have h5 := blw h4 hb5
  clear hC4
  replace o_x := o_x.below hb5 o_x.lt
  replace v_x := v_x.below hb5
  go_wp2_with fail
  refine (toRecordS_any _ _ a0 _ ((hl0.below h5).more h5.size) (fun r hr => ((he0 r hr).below h5).more h5.size) hn0).mono ?_
  rintro e w6 ⟨g_t, l_t, gl_t, ln_t, d_t, rfl, o_t, v_t, hb6⟩
  have h6 := blw h5 hb6
  replace o_x := o_x.below hb6 o_x.lt
  replace v_x := v_x.below hb6
  have hC6 := eqRecordS_any (some ⟨g_x, 0, none⟩) (some ⟨g_t, 0, none⟩) a0.length a0.length l_x l_t w6 (o_x.ls encRec_len) (o_t.ls encRec_len) v_x.evr v_t.evr (d_t.trans D_x.out.symm) (by have := totR_dat D_x.out; have := Ln_x.out; omega)
  rw [Ln_x.out, ln_t] at hC6
  clear ln_t d_t o_t v_t
  go_wp2_with fail
  refine hC6.mono ?_
  rintro e w7 ⟨rfl, hb7⟩
  have h7 := blw h6 hb7
  clear hC6
  go_wp2_with fail
  go_ret
  exact ⟨rfl, h7⟩

end Go.Proofs.Ytoohbpaheeckpaa
