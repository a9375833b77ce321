/- Contracts: DaysOpen. -/
import Derived.Test.YtfepopkgnomdgaaDoorW5o
namespace Go.Proofs.YtfepopkgnomdgaaDoor
set_option linter.unusedVariables false
set_option linter.unusedSimpArgs false
open Go.RowKit
attribute [local go_sem] Aft.cell

def dayB (l : List FileD) (id d : Int) : Bool := filesB l && (hasX l id && (inB (opAt l (idxX l id)) 0 20000 && inB d 0 20000 && decide (opAt l (idxX l id) ≤ d)))
def dayV (l : List FileD) (id d : Int) : Int := if dayB l id d then (if stAt l (idxX l id) = 0 then d else min d (clAt l (idxX l id))) - opAt l (idxX l id) + 1 else 0
theorem dayB_no {l : List FileD} {id d : Int} (h : filesB l = false ∨ hasX l id = false ∨ (inB (opAt l (idxX l id)) 0 20000 && inB d 0 20000 && decide (opAt l (idxX l id) ≤ d)) = false) : dayB l id d = false ∧ dayV l id d = 0 := by
  have h1 : dayB l id d = false := by
    unfold dayB
    rcases h with h | h | h
    · rw [h]; rfl
    · rw [h]; simp
    · rw [h]; simp
  exact ⟨h1, by simp [dayV, h1]⟩
theorem dayB_open {l : List FileD} {id d : Int} (h1 : filesB l = true) (h2 : hasX l id = true) (h3 : (inB (opAt l (idxX l id)) 0 20000 && inB d 0 20000 && decide (opAt l (idxX l id) ≤ d)) = true) (hs : stAt l (idxX l id) = 0) : dayB l id d = true ∧ dayV l id d = d - opAt l (idxX l id) + 1 := by
  have h : dayB l id d = true := by unfold dayB; rw [h1, h2, h3]; rfl
  exact ⟨h, by unfold dayV; rw [if_pos h, if_pos hs]⟩
theorem dayB_shut {l : List FileD} {id d : Int} (h1 : filesB l = true) (h2 : hasX l id = true) (h3 : (inB (opAt l (idxX l id)) 0 20000 && inB d 0 20000 && decide (opAt l (idxX l id) ≤ d)) = true) (hs : ¬ stAt l (idxX l id) = 0) : dayB l id d = true ∧ dayV l id d = min d (clAt l (idxX l id)) - opAt l (idxX l id) + 1 := by
  have h : dayB l id d = true := by unfold dayB; rw [h1, h2, h3]; rfl
  exact ⟨h, by unfold dayV; rw [if_pos h, if_neg hs]⟩
set_option maxHeartbeats 400000 in
theorem l1Least_any (a b : Int) (w : World) :
    Calls Tryd.prog 50 #[.int .i64 a, .int .i64 b] w fun e w' => e = .returned (.int .i64 (min a b)) ∧ w = w' := by
  by_cases h : a < b
  · go_enter Tryd.func50, Tryd.ntmps50
    go_wp2
    go_ret
    exact ⟨ret_int (by omega), rfl⟩
  · go_enter Tryd.func50, Tryd.ntmps50
    go_wp2
    go_ret
    exact ⟨ret_int (by omega), rfl⟩

set_option maxHeartbeats 4000000 in
theorem c_impl_DaysOpen (A : Option Addr) (c : Nat) (l : List FileD) (id d : Int) (w : World) (hl : Ls w w.heap.size encFile 7 A l) (hm : l.length ≤ 1048576) (hnm : ∀ f ∈ l, f.title.size ≤ 1048576) (hcap : l.length ≤ c) :
    Calls Tryd.prog 18 #[.slice A l.length c, .int .i64 id, .int .i64 d] w fun e w' => e = .returned (.tuple #[.int .i64 (dayV l id d), .bool (dayB l id d)]) ∧ Below w.heap.size w w' := by
  have hlm : l.length ≤ 9223372036854775807 := by omega
  have hlen : (l.length : Int) ≤ 1048576 := by omega
  have Hnm := Lib.hid hnm
  cases h2 : hasX l id
  · have Hv := Lib.hid (dayB_no (d := d) (.inr (.inl h2)))
    have Hz := Lib.hid (show idxXI l id = -1 by unfold idxXI; rw [h2]; rfl)
    clear h2 hnm
    cases h1' : filesB l
    all_goals
      have h1 := Lib.hid h1'
      clear h1'
      go_enter Tryd.func18, Tryd.ntmps18
      go_wp2_with fail
      refine (fileAt_any _ _ l id _ hl hlm).mono ?_
      rw [Hz.out]
      rintro e w1 ⟨rfl, hb1⟩
      go_wp2_with fail
      refine (AreFiles_v _ _ l w1 _ h1.out ((hl.below hb1).more hb1.size) hm Hnm.out hcap).mono ?_
      rintro e w2 ⟨rfl, hb2⟩
      have hB2 := blw hb1 hb2
      go_wp2_with fail
      go_ret2
      exact ⟨by rw [Hv.out.1, Hv.out.2]; rfl, hB2⟩
  · have Hz := Lib.hid (show idxXI l id = (idxX l id : Int) by unfold idxXI; rw [h2]; rfl)
    have hlt := hasX_lt h2
    cases h1' : filesB l
    · have h1 := Lib.hid h1'
      have Hv := Lib.hid (dayB_no (id := id) (d := d) (.inl h1'))
      clear h1' h2 hnm
      go_enter Tryd.func18, Tryd.ntmps18
      go_wp2_with fail
      refine (fileAt_any _ _ l id _ hl hlm).mono ?_
      rw [Hz.out]
      rintro e w1 ⟨rfl, hb1⟩
      go_wp2_with fail
      refine (AreFiles_v _ _ l w1 _ h1.out ((hl.below hb1).more hb1.size) hm Hnm.out hcap).mono ?_
      rintro e w2 ⟨rfl, hb2⟩
      have hB2 := blw hb1 hb2
      go_wp2_with fail
      go_ret2
      exact ⟨by rw [Hv.out.1, Hv.out.2]; rfl, hB2⟩
    · have h1 := Lib.hid h1'
      have hfl := file_parts (file_of h1' hlt)
      rw [opAt_eq, clAt_eq, stAt_eq] at hfl
      obtain ⟨f1, f2, f3, f4, f5, f6, f7, f8, f9, f10⟩ := hfl
      clear f5
      have hA := areDays_any (opAt l (idxX l id)) d
      cases hk : (inB (opAt l (idxX l id)) 0 20000 && inB d 0 20000 && decide (opAt l (idxX l id) ≤ d))
      · rw [hk] at hA
        have Hv := Lib.hid (dayB_no (.inr (.inr hk)))
        clear h1' h2 hnm hk
        go_enter Tryd.func18, Tryd.ntmps18
        go_wp2_with fail
        refine (fileAt_any _ _ l id _ hl hlm).mono ?_
        rw [Hz.out]
        rintro e w1 ⟨rfl, hb1⟩
        go_wp2_with fail
        refine (AreFiles_v _ _ l w1 _ h1.out ((hl.below hb1).more hb1.size) hm Hnm.out hcap).mono ?_
        rintro e w2 ⟨rfl, hb2⟩
        have hB2 := blw hb1 hb2
        obtain ⟨b, off, rfl, hbb, hc0, hc1, hc2, hc3, hc4, hc5, hc6⟩ := ((hl.below hB2).more hB2.size).at_File hlt
        rw [opAt_eq] at hc3
        rw [clAt_eq] at hc4
        rw [stAt_eq] at hc5
        have hi1 : (idxX l id : Int) < (l.length : Int) := by omega
        go_wp2_with fail
        refine (hA _).mono ?_
        rintro e w3 ⟨rfl, rfl⟩
        go_wp2_with fail
        go_ret2
        exact ⟨by rw [Hv.out.1, Hv.out.2]; rfl, hB2⟩
      · rw [hk] at hA
        have hd : 0 ≤ d ∧ d ≤ 20000 := by simp [inB] at hk; omega
        by_cases hs : stAt l (idxX l id) = 0
        · have Hv := Lib.hid (dayB_open h1' h2 hk hs)
          have hcd : 0 ≤ clAt l (idxX l id) ∧ clAt l (idxX l id) ≤ 20000 := by omega
          clear h1' h2 hnm hk f10
          go_enter Tryd.func18, Tryd.ntmps18
          go_wp2_with fail
          refine (fileAt_any _ _ l id _ hl hlm).mono ?_
          rw [Hz.out]
          rintro e w1 ⟨rfl, hb1⟩
          go_wp2_with fail
          refine (AreFiles_v _ _ l w1 _ h1.out ((hl.below hb1).more hb1.size) hm Hnm.out hcap).mono ?_
          rintro e w2 ⟨rfl, hb2⟩
          have hB2 := blw hb1 hb2
          obtain ⟨b, off, rfl, hbb, hc0, hc1, hc2, hc3, hc4, hc5, hc6⟩ := ((hl.below hB2).more hB2.size).at_File hlt
          rw [opAt_eq] at hc3
          rw [clAt_eq] at hc4
          rw [stAt_eq] at hc5
          have hi1 : (idxX l id : Int) < (l.length : Int) := by omega
          go_wp2_with fail
          refine (hA _).mono ?_
          rintro e w2 ⟨rfl, rfl⟩
          go_wp2_with fail
          go_ret2
          exact ⟨by rw [Hv.out.1, Hv.out.2]; rfl, hB2⟩
        · have Hv := Lib.hid (dayB_shut h1' h2 hk hs)
          have hcd : 0 ≤ clAt l (idxX l id) ∧ clAt l (idxX l id) ≤ 20000 := by omega
          clear h1' h2 hnm hk f10
          go_enter Tryd.func18, Tryd.ntmps18
          go_wp2_with fail
          refine (fileAt_any _ _ l id _ hl hlm).mono ?_
          rw [Hz.out]
          rintro e w1 ⟨rfl, hb1⟩
          go_wp2_with fail
          refine (AreFiles_v _ _ l w1 _ h1.out ((hl.below hb1).more hb1.size) hm Hnm.out hcap).mono ?_
          rintro e w2 ⟨rfl, hb2⟩
          have hB2 := blw hb1 hb2
          obtain ⟨b, off, rfl, hbb, hc0, hc1, hc2, hc3, hc4, hc5, hc6⟩ := ((hl.below hB2).more hB2.size).at_File hlt
          rw [opAt_eq] at hc3
          rw [clAt_eq] at hc4
          rw [stAt_eq] at hc5
          have hi1 : (idxX l id : Int) < (l.length : Int) := by omega
          go_wp2_with fail
          refine (hA _).mono ?_
          rintro e w2 ⟨rfl, rfl⟩
          go_wp2_with fail
          go_ret2
          exact ⟨by rw [Hv.out.1, Hv.out.2]; rfl, hB2⟩

set_option maxHeartbeats 4000000 in
theorem c_spec_DaysOpen (A : Option Addr) (c : Nat) (l : List FileD) (id d : Int) (w : World) (hl : Ls w w.heap.size encFile 7 A l) (hm : l.length ≤ 1048576) (hnm : ∀ f ∈ l, f.title.size ≤ 1048576) (hcap : l.length ≤ c) :
    Calls Tryd.prog 17 #[.slice A l.length c, .int .i64 id, .int .i64 d] w fun e w' => e = .returned (.tuple #[.int .i64 (dayV l id d), .bool (dayB l id d)]) ∧ Below w.heap.size w w' := by
  have hlm : l.length ≤ 9223372036854775807 := by omega
  have hlen : (l.length : Int) ≤ 1048576 := by omega
  have Hnm := Lib.hid hnm
  have hF := l5Find_any A c l id (-1) w hl hm hnm hcap
  cases h3 : (filesB l && hasX l id)
  · have Hv := Lib.hid (dayB_no (l := l) (id := id) (d := d) (by simp only [Bool.and_eq_false_iff] at h3; rcases h3 with h | h; exact .inl h; exact .inr (.inl h)))
    have Hz := Lib.hid (show findXI l id (-1) = -1 by unfold findXI; rw [h3]; rfl)
    rw [Hz.out] at hF
    clear h3 hnm
    go_enter Tryd.func17, Tryd.ntmps17
    go_wp2_with fail
    refine hF.mono ?_
    rintro e w1 ⟨rfl, hb1⟩
    have hB2 := hb1
    go_wp2_with fail
    go_ret2
    exact ⟨by rw [Hv.out.1, Hv.out.2]; rfl, hB2⟩
  · have Hz := Lib.hid (show findXI l id (-1) = (idxX l id : Int) by unfold findXI; rw [h3]; rfl)
    rw [Hz.out] at hF
    simp only [Bool.and_eq_true] at h3
    obtain ⟨h1', h2⟩ := h3
    have hlt := hasX_lt h2
    have hfl := file_parts (file_of h1' hlt)
    rw [opAt_eq, clAt_eq, stAt_eq] at hfl
    obtain ⟨f1, f2, f3, f4, f5, f6, f7, f8, f9, f10⟩ := hfl
    clear f5
    have hD := l2Day5_any d
    cases hd : inB d 0 20000
    · rw [hd] at hD
      have Hv := Lib.hid (dayB_no (l := l) (id := id) (d := d) (.inr (.inr (by rw [hd]; simp))))
      clear h1' h2 hnm hd
      go_enter Tryd.func17, Tryd.ntmps17
      go_wp2_with fail
      refine hF.mono ?_
      rintro e w1 ⟨rfl, hb1⟩
      have hB2 := hb1
      obtain ⟨b, off, rfl, hbb, hc0, hc1, hc2, hc3, hc4, hc5, hc6⟩ := ((hl.below hB2).more hB2.size).at_File hlt
      rw [opAt_eq] at hc3
      rw [clAt_eq] at hc4
      rw [stAt_eq] at hc5
      have hi1 : (idxX l id : Int) < (l.length : Int) := by omega
      go_wp2_with fail
      refine (hD _).mono ?_
      rintro e w3 ⟨rfl, rfl⟩
      go_wp2_with fail
      go_ret2
      exact ⟨by rw [Hv.out.1, Hv.out.2]; rfl, hB2⟩
    · rw [hd] at hD
      have hdd : 0 ≤ d ∧ d ≤ 20000 := by simp [inB] at hd; omega
      have ho : inB (opAt l (idxX l id)) 0 20000 = true := by simp [inB]; omega
      by_cases hod : d < opAt l (idxX l id)
      · have Hv := Lib.hid (dayB_no (l := l) (id := id) (d := d) (.inr (.inr (by rw [ho, hd]; simp; omega))))
        clear h1' h2 hnm hd ho
        go_enter Tryd.func17, Tryd.ntmps17
        go_wp2_with fail
        refine hF.mono ?_
        rintro e w1 ⟨rfl, hb1⟩
        have hB2 := hb1
        obtain ⟨b, off, rfl, hbb, hc0, hc1, hc2, hc3, hc4, hc5, hc6⟩ := ((hl.below hB2).more hB2.size).at_File hlt
        rw [opAt_eq] at hc3
        rw [clAt_eq] at hc4
        rw [stAt_eq] at hc5
        have hi1 : (idxX l id : Int) < (l.length : Int) := by omega
        go_wp2_with fail
        refine (hD _).mono ?_
        rintro e w3 ⟨rfl, rfl⟩
        go_wp2_with fail
        go_ret2
        exact ⟨by rw [Hv.out.1, Hv.out.2]; rfl, hB2⟩
      · have hk : (inB (opAt l (idxX l id)) 0 20000 && inB d 0 20000 && decide (opAt l (idxX l id) ≤ d)) = true := by rw [ho, hd]; simp; omega
        by_cases hs : stAt l (idxX l id) = 0
        · have Hv := Lib.hid (dayB_open h1' h2 hk hs)
          have hcd : 0 ≤ clAt l (idxX l id) ∧ clAt l (idxX l id) ≤ 20000 := by omega
          clear h1' h2 hnm hk f10 hd ho
          go_enter Tryd.func17, Tryd.ntmps17
          go_wp2_with fail
          refine hF.mono ?_
          rintro e w1 ⟨rfl, hb1⟩
          have hB2 := hb1
          obtain ⟨b, off, rfl, hbb, hc0, hc1, hc2, hc3, hc4, hc5, hc6⟩ := ((hl.below hB2).more hB2.size).at_File hlt
          rw [opAt_eq] at hc3
          rw [clAt_eq] at hc4
          rw [stAt_eq] at hc5
          have hi1 : (idxX l id : Int) < (l.length : Int) := by omega
          go_wp2_with fail
          refine (hD _).mono ?_
          rintro e w1 ⟨rfl, rfl⟩
          go_wp2_with fail
          go_ret2
          exact ⟨by rw [Hv.out.1, Hv.out.2]; rfl, hB2⟩
        · have Hv := Lib.hid (dayB_shut h1' h2 hk hs)
          have hcd : 0 ≤ clAt l (idxX l id) ∧ clAt l (idxX l id) ≤ 20000 := by omega
          clear h1' h2 hnm hk f10 hd ho
          go_enter Tryd.func17, Tryd.ntmps17
          go_wp2_with fail
          refine hF.mono ?_
          rintro e w1 ⟨rfl, hb1⟩
          have hB2 := hb1
          obtain ⟨b, off, rfl, hbb, hc0, hc1, hc2, hc3, hc4, hc5, hc6⟩ := ((hl.below hB2).more hB2.size).at_File hlt
          rw [opAt_eq] at hc3
          rw [clAt_eq] at hc4
          rw [stAt_eq] at hc5
          have hi1 : (idxX l id : Int) < (l.length : Int) := by omega
          go_wp2_with fail
          refine (hD _).mono ?_
          rintro e w1 ⟨rfl, rfl⟩
          go_wp2_with fail
          refine (l1Least_any _ _ _).mono ?_
          rintro e w1 ⟨rfl, rfl⟩
          go_wp2_with fail
          go_ret2
          exact ⟨by rw [Hv.out.1, Hv.out.2]; rfl, hB2⟩

end Go.Proofs.YtfepopkgnomdgaaDoor
