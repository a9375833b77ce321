/- Contracts: the stable sort of files by the day on which they were closed. -/
import Derived.Test.YtlhihdcdbclcbaaDoorW5d
import Derived.Test.YtlhihdcdbclcbaaDoorD5t
import Derived.Test.YtlhihdcdbclcbaaDoorC
import Derived.Test.YtlhihdcdbclcbaaDoorVs
import Derived.Handy
namespace Go.Proofs.YtlhihdcdbclcbaaDoor
set_option linter.unusedVariables false
set_option linter.unusedSimpArgs false
open Go.RowKit
attribute [local go_sem] Aft.cell

theorem cmpI_lt (a b : Int) : decide (cmpI a b < 0) = decide (a < b) := by
  unfold cmpI
  by_cases h : a < b
  · simp [h]
  · by_cases h2 : b < a
    · simp [h, h2]
    · simp [h, h2]
theorem Std.putFileR {l : List FileD} {f : Nat → Value} (h : Std encFile 7 l f) (i : Nat) (x : FileD) : Std encFile 7 (l.set i x) (upd (upd (upd (upd (upd (upd (upd f (i * 7) (.int .i64 x.id)) (i * 7 + 1) (.int .i64 x.series)) (i * 7 + 2) (.string x.title)) (i * 7 + 3) (.int .i64 x.opened)) (i * 7 + 4) (.int .i64 x.closed)) (i * 7 + 5) (.int .i64 x.state)) (i * 7 + 6) (.int .i64 x.pages)) :=
  h.set encFile_len i x (fun j u hu => by
    have hj : j < 7 := by have hq := (List.getElem?_eq_some_iff.1 hu).1; rwa [encFile_len] at hq
    match j, hj, hu with
    | 0, _, hu => simp [encFile] at hu; subst hu; simp [upd]
    | 1, _, hu => simp [encFile] at hu; subst hu; simp [upd]
    | 2, _, hu => simp [encFile] at hu; subst hu; simp [upd]
    | 3, _, hu => simp [encFile] at hu; subst hu; simp [upd]
    | 4, _, hu => simp [encFile] at hu; subst hu; simp [upd]
    | 5, _, hu => simp [encFile] at hu; subst hu; simp [upd]
    | 6, _, hu => simp [encFile] at hu; subst hu; simp [upd]) (fun m hm => by rw [upd_other (by omega), upd_other (by omega), upd_other (by omega), upd_other (by omega), upd_other (by omega), upd_other (by omega), upd_other (by omega)])

set_option maxHeartbeats 1000000 in
theorem closC_any (f g : FileD) (w : World) :
    Calls Tryd.prog 41 #[.agg #[.int .i64 f.id, .int .i64 f.series, .string f.title, .int .i64 f.opened, .int .i64 f.closed, .int .i64 f.state, .int .i64 f.pages], .agg #[.int .i64 g.id, .int .i64 g.series, .string g.title, .int .i64 g.opened, .int .i64 g.closed, .int .i64 g.state, .int .i64 g.pages]] w fun e w' => e = .returned (.int .i64 (cmpI f.closed g.closed)) ∧ Below w.heap.size w w' := by
  go_enter Tryd.func41, Tryd.ntmps41
  go_wp2_with (go_at_call 29; refine (Compare_any _ _ _).mono ?_; rintro e w' ⟨rfl, rfl⟩)
  go_ret
  exact ⟨rfl, blw_alloc (blw_alloc (Below.refl _ _) _) _⟩

def InsR (l : List FileD) (k j : Nat) : Prop := ∀ t (ht : t < (srtC l k).length), j ≤ t → t < k → (l.getD k ⟨0, 0, ⟨#[]⟩, 0, 0, 0, 0⟩).closed < (srtC l k)[t].closed

/-- the list while one file goes down, its cells -/
theorem mov_at {l : List FileD} {k j : Nat} (hk : k < l.length) (hjk : j ≤ k) (h0 : 0 < j) {f : Nat → Value} (hs : Std encFile 7 (movC l k j) f) :
    (∀ q u, (encFile l[k])[q]? = some u → f (j * 7 + q) = u) ∧ (∀ q u, (encFile ((srtC l k)[j - 1]'(by rw [srtC_len l k (by omega)]; omega)))[q]? = some u → f ((j - 1) * 7 + q) = u) := by
  have hl := movC_len hk hjk
  refine ⟨fun q u hu => hs j (by omega) q u (by rw [movC_get hk hjk]; exact hu), fun q u hu => hs (j - 1) (by omega) q u (by rw [movC_prev hk hjk h0]; exact hu)⟩
theorem mov_swap {l : List FileD} {k j : Nat} (hk : k < l.length) (hjk : j ≤ k) (h0 : 0 < j) {w : World} {g c base : Nat} {f : Nat → Value} (hr : RowF w g 47 (c * 7) f) (hs : Std encFile 7 (movC l k j) f) (hb : base ≤ g) (hc : l.length ≤ c) (hm : c ≤ maxLen) (x : FileD) (hx : x = (srtC l k)[j - 1]'(by rw [srtC_len l k (by omega)]; omega)) :
    Vec (((((((((((((((w.setCell ⟨g, j * 7, none⟩ (.int .i64 x.id)).setCell ⟨g, j * 7 + 1, none⟩ (.int .i64 x.series)).setCell ⟨g, j * 7 + 2, none⟩ (.string x.title)).setCell ⟨g, j * 7 + 3, none⟩ (.int .i64 x.opened)).setCell ⟨g, j * 7 + 4, none⟩ (.int .i64 x.closed)).setCell ⟨g, j * 7 + 5, none⟩ (.int .i64 x.state)).setCell ⟨g, j * 7 + 6, none⟩ (.int .i64 x.pages)).setCell ⟨g, (j - 1) * 7, none⟩ (.int .i64 l[k].id)).setCell ⟨g, (j - 1) * 7 + 1, none⟩ (.int .i64 l[k].series)).setCell ⟨g, (j - 1) * 7 + 2, none⟩ (.string l[k].title)).setCell ⟨g, (j - 1) * 7 + 3, none⟩ (.int .i64 l[k].opened)).setCell ⟨g, (j - 1) * 7 + 4, none⟩ (.int .i64 l[k].closed)).setCell ⟨g, (j - 1) * 7 + 5, none⟩ (.int .i64 l[k].state)).setCell ⟨g, (j - 1) * 7 + 6, none⟩ (.int .i64 l[k].pages))) base 47 encFile 7 (.slice (some ⟨g, 0, none⟩) l.length c) (movC l k (j - 1)) := by
  subst hx
  have h := RowF.vec (l := ((movC l k j).set j ((srtC l k)[j - 1]'(by rw [srtC_len l k (by omega)]; omega))).set (j - 1) l[k]) (((((((((((((((hr.put _ _).put _ _).put _ _).put _ _).put _ _).put _ _).put _ _).put _ _).put _ _).put _ _).put _ _).put _ _).put _ _).put _ _)) encFile_len hb (by simp only [List.length_set]; rw [movC_len hk hjk]; exact hc) hm ((hs.putFileR j _).putFileR (j - 1) l[k])
  have hl : (((movC l k j).set j ((srtC l k)[j - 1]'(by rw [srtC_len l k (by omega)]; omega))).set (j - 1) l[k]).length = l.length := by simp only [List.length_set]; exact movC_len hk hjk
  rw [hl, movC_swap hk hjk h0] at h
  exact h

set_option maxHeartbeats 8000000 in
theorem insSort_any (g c base : Nat) (l : List FileD) (w : World) (hv : Vec w base 47 encFile 7 (.slice (some ⟨g, 0, none⟩) l.length c) l) (hn : l.length ≤ 10) (hb0 : base ≤ w.heap.size) :
    Calls Tryd.prog 58 #[.slice (some ⟨g, 0, none⟩) l.length c, .int .i64 0, .int .i64 (l.length : Int), .func (.func 41) #[] #[]] w
      fun e w' => (∃ v, e = .returned v) ∧ Vec w' base 47 encFile 7 (.slice (some ⟨g, 0, none⟩) l.length c) (srtC l l.length) ∧ Wr (blkOf (some ⟨g, 0, none⟩)) w w' := by
  have hlen : (l.length : Int) ≤ 10 := by omega
  have hs1 : Vec w base 47 encFile 7 (.slice (some ⟨g, 0, none⟩) l.length c) (halfC l 1) := by
    by_cases h0 : 0 < l.length
    · rw [halfC_one l h0]; exact hv
    · have h1 : l = [] := List.length_eq_zero_iff.1 (by omega)
      subst h1
      exact hv
  go_enter Tryd.func58, Tryd.ntmps58
  go_wp2_with fail
  go_loopw [8] (fun i wr => ∃ k : Nat, 1 ≤ k ∧ k ≤ l.length + 1 ∧ (k ≤ l.length ∨ l.length = 0) ∧ i = .int .i64 k ∧ Vec wr base 47 encFile 7 (.slice (some ⟨g, 0, none⟩) l.length c) (halfC l k) ∧ Wr (blkOf (some ⟨g, 0, none⟩)) w wr) (fun i _ => l.length - (intOf i).toNat)
  case atStart => exact ⟨1, Nat.le_refl _, by omega, by omega, rfl, hs1, Wr.refl _ _⟩
  case round =>
    clear hs1
    obtain ⟨k, hk1, hkl, hkz, rfl, hvo, hwo⟩ := hrel
    obtain ⟨wo, rfl⟩ : ∃ wo : World, wo = wr := ⟨_, rfl⟩
    by_cases hk : k < l.length
    · have hso := srtC_len l k (by omega)
      rw [halfC_mov hk] at hvo
      have hki : (k : Int) < (l.length : Int) := by omega
      go_wp2_with fail
      go_loopw [9] (fun i wr => ∃ j : Nat, j ≤ k ∧ i = .int .i64 j ∧ Vec wr base 47 encFile 7 (.slice (some ⟨g, 0, none⟩) l.length c) (movC l k j) ∧ Wr (blkOf (some ⟨g, 0, none⟩)) w wr ∧ Hid (∀ t (ht : t < (srtC l k).length), j ≤ t → l[k].closed < (srtC l k)[t].closed)) (fun i _ => (intOf i).toNat)
      case atStart => exact ⟨k, Nat.le_refl _, rfl, hvo, hwo, fun t ht h => by omega⟩
      case round =>
        clear hvo hwo
        obtain ⟨j, hjk, rfl, hvj, hwj, HB⟩ := hrel
        have hlm := movC_len hk hjk
        by_cases hj : 0 < j
        · have hji : (0 : Int) < (j : Int) := by omega
          have hjl : (j : Int) < (l.length : Int) := by omega
          have hj1 : (0 : Int) ≤ (j : Int) - 1 := by omega
          have hj2 : (j : Int) - 1 < (l.length : Int) := by omega
          have hsj : j - 1 < (srtC l k).length := by omega
          obtain ⟨f, hr, hbg, hlc, hcm, hstd⟩ := (show Vec wr base 47 encFile 7 (.slice (some ⟨g, 0, none⟩) (movC l k j).length c) (movC l k j) by rw [hlm]; exact hvj).rowf encFile_len
          rw [hlm] at hlc
          obtain ⟨hma, hmb⟩ := mov_at hk hjk hj hstd
          have hsf := hr.frozen
          have hgl := hr.lt
          have hjn : ((j : Int) - 1).toNat = j - 1 := by omega
          obtain ⟨x, hx⟩ : ∃ x, x = (srtC l k)[j - 1]'hsj := ⟨_, rfl⟩
          rw [← hx] at hmb
          have a0 : wr.cell? ⟨g, j * 7, none⟩ = some (.int .i64 l[k].id) := (hr.cell (i := j * 7) (by omega)).trans (congrArg some (hma 0 _ rfl))
          have b0 : wr.cell? ⟨g, (j - 1) * 7, none⟩ = some (.int .i64 x.id) := (hr.cell (i := (j - 1) * 7) (by omega)).trans (congrArg some (hmb 0 _ rfl))
          have a1 : wr.cell? ⟨g, j * 7 + 1, none⟩ = some (.int .i64 l[k].series) := (hr.cell (i := j * 7 + 1) (by omega)).trans (congrArg some (hma 1 _ rfl))
          have b1 : wr.cell? ⟨g, (j - 1) * 7 + 1, none⟩ = some (.int .i64 x.series) := (hr.cell (i := (j - 1) * 7 + 1) (by omega)).trans (congrArg some (hmb 1 _ rfl))
          have a2 : wr.cell? ⟨g, j * 7 + 2, none⟩ = some (.string l[k].title) := (hr.cell (i := j * 7 + 2) (by omega)).trans (congrArg some (hma 2 _ rfl))
          have b2 : wr.cell? ⟨g, (j - 1) * 7 + 2, none⟩ = some (.string x.title) := (hr.cell (i := (j - 1) * 7 + 2) (by omega)).trans (congrArg some (hmb 2 _ rfl))
          have a3 : wr.cell? ⟨g, j * 7 + 3, none⟩ = some (.int .i64 l[k].opened) := (hr.cell (i := j * 7 + 3) (by omega)).trans (congrArg some (hma 3 _ rfl))
          have b3 : wr.cell? ⟨g, (j - 1) * 7 + 3, none⟩ = some (.int .i64 x.opened) := (hr.cell (i := (j - 1) * 7 + 3) (by omega)).trans (congrArg some (hmb 3 _ rfl))
          have a4 : wr.cell? ⟨g, j * 7 + 4, none⟩ = some (.int .i64 l[k].closed) := (hr.cell (i := j * 7 + 4) (by omega)).trans (congrArg some (hma 4 _ rfl))
          have b4 : wr.cell? ⟨g, (j - 1) * 7 + 4, none⟩ = some (.int .i64 x.closed) := (hr.cell (i := (j - 1) * 7 + 4) (by omega)).trans (congrArg some (hmb 4 _ rfl))
          have a5 : wr.cell? ⟨g, j * 7 + 5, none⟩ = some (.int .i64 l[k].state) := (hr.cell (i := j * 7 + 5) (by omega)).trans (congrArg some (hma 5 _ rfl))
          have b5 : wr.cell? ⟨g, (j - 1) * 7 + 5, none⟩ = some (.int .i64 x.state) := (hr.cell (i := (j - 1) * 7 + 5) (by omega)).trans (congrArg some (hmb 5 _ rfl))
          have a6 : wr.cell? ⟨g, j * 7 + 6, none⟩ = some (.int .i64 l[k].pages) := (hr.cell (i := j * 7 + 6) (by omega)).trans (congrArg some (hma 6 _ rfl))
          have b6 : wr.cell? ⟨g, (j - 1) * 7 + 6, none⟩ = some (.int .i64 x.pages) := (hr.cell (i := (j - 1) * 7 + 6) (by omega)).trans (congrArg some (hmb 6 _ rfl))
          have hcc := cmpI_lt l[k].closed x.closed
          have Hstd := Lib.hid hstd
          have Hx := Lib.hid hx
          have Hr := Lib.hid hr
          clear hma hmb hstd hx hr hvj
          cases hq : decide (l[k].closed < x.closed)
          · rw [hq] at hcc
            have Hq := Lib.hid hq
            clear hq
            go_wp2_with fail
            refine wp_region_calm (by kernel_rfl) (by kernel_rfl) ?_
            repeat (go_big_quiet_step ((go_at_call 41; exact Calls.calm (closC_any l[k] x _))))
            refine wpQuiet_nil ?_
            rintro w1 ⟨x1, hW1⟩
            have hb1 := x1.h
            rw [← hW1] at hb1
            clear hW1 x1
            have hw1 : Wr (blkOf (some ⟨g, 0, none⟩)) w w1 := hwj.trans (Wr.of_below hb1)
            have hv1 : Vec w1 base 47 encFile 7 (.slice (some ⟨g, 0, none⟩) l.length c) (halfC l (k + 1)) := by
              have h := RowF.vec (base := base) (l := movC l k j) (Hr.out.below hb1 hgl) encFile_len hbg (by rw [hlm]; exact hlc) hcm Hstd.out
              rw [hlm, movC_end hk (plcC_at j (by omega) (fun t ht h => HB.out t ht h) (fun _ => by rw [← Hx.out]; have h9 := Hq.out; simp at h9; omega))] at h
              exact h
            go_wp2_with fail
            go_roundw
            case rel => exact ⟨k + 1, by omega, by omega, by omega, by go_num, hv1, hw1⟩
            case measure => simp [intOf]; omega
          · rw [hq] at hcc
            have Hq := Lib.hid hq
            clear hq
            go_wp2_with fail
            refine wp_region_calm (by kernel_rfl) (by kernel_rfl) ?_
            repeat (go_big_quiet_step ((go_at_call 41; exact Calls.calm (closC_any l[k] x _))))
            refine wpQuiet_nil ?_
            rintro w1 ⟨x1, hW1⟩
            have hb1 := x1.h
            rw [← hW1] at hb1
            clear hW1 x1
            have hr1 := Hr.out.below hb1 hgl
            have hwr : Wr (blkOf (some ⟨g, 0, none⟩)) w w1 := hwj.trans (Wr.of_below hb1)
            replace a0 : w1.cell? ⟨g, j * 7, none⟩ = some (.int .i64 l[k].id) := (hb1.cell (p := ⟨g, _, none⟩) hgl).trans a0
            replace b0 : w1.cell? ⟨g, (j - 1) * 7, none⟩ = some (.int .i64 x.id) := (hb1.cell (p := ⟨g, _, none⟩) hgl).trans b0
            replace a1 : w1.cell? ⟨g, j * 7 + 1, none⟩ = some (.int .i64 l[k].series) := (hb1.cell (p := ⟨g, _, none⟩) hgl).trans a1
            replace b1 : w1.cell? ⟨g, (j - 1) * 7 + 1, none⟩ = some (.int .i64 x.series) := (hb1.cell (p := ⟨g, _, none⟩) hgl).trans b1
            replace a2 : w1.cell? ⟨g, j * 7 + 2, none⟩ = some (.string l[k].title) := (hb1.cell (p := ⟨g, _, none⟩) hgl).trans a2
            replace b2 : w1.cell? ⟨g, (j - 1) * 7 + 2, none⟩ = some (.string x.title) := (hb1.cell (p := ⟨g, _, none⟩) hgl).trans b2
            replace a3 : w1.cell? ⟨g, j * 7 + 3, none⟩ = some (.int .i64 l[k].opened) := (hb1.cell (p := ⟨g, _, none⟩) hgl).trans a3
            replace b3 : w1.cell? ⟨g, (j - 1) * 7 + 3, none⟩ = some (.int .i64 x.opened) := (hb1.cell (p := ⟨g, _, none⟩) hgl).trans b3
            replace a4 : w1.cell? ⟨g, j * 7 + 4, none⟩ = some (.int .i64 l[k].closed) := (hb1.cell (p := ⟨g, _, none⟩) hgl).trans a4
            replace b4 : w1.cell? ⟨g, (j - 1) * 7 + 4, none⟩ = some (.int .i64 x.closed) := (hb1.cell (p := ⟨g, _, none⟩) hgl).trans b4
            replace a5 : w1.cell? ⟨g, j * 7 + 5, none⟩ = some (.int .i64 l[k].state) := (hb1.cell (p := ⟨g, _, none⟩) hgl).trans a5
            replace b5 : w1.cell? ⟨g, (j - 1) * 7 + 5, none⟩ = some (.int .i64 x.state) := (hb1.cell (p := ⟨g, _, none⟩) hgl).trans b5
            replace a6 : w1.cell? ⟨g, j * 7 + 6, none⟩ = some (.int .i64 l[k].pages) := (hb1.cell (p := ⟨g, _, none⟩) hgl).trans a6
            replace b6 : w1.cell? ⟨g, (j - 1) * 7 + 6, none⟩ = some (.int .i64 x.pages) := (hb1.cell (p := ⟨g, _, none⟩) hgl).trans b6
            replace hsf := hr1.frozen
            replace hgl := hr1.lt
            have HV := Lib.hid (mov_swap (base := base) hk hjk hj hr1 Hstd.out hbg hlc hcm x Hx.out)
            have HW := Lib.hid (((((((((((((((hwr.setCell (p := ⟨g, j * 7, none⟩) (.inl ⟨_, rfl⟩) (.int .i64 x.id)).setCell (p := ⟨g, j * 7 + 1, none⟩) (.inl ⟨_, rfl⟩) (.int .i64 x.series)).setCell (p := ⟨g, j * 7 + 2, none⟩) (.inl ⟨_, rfl⟩) (.string x.title)).setCell (p := ⟨g, j * 7 + 3, none⟩) (.inl ⟨_, rfl⟩) (.int .i64 x.opened)).setCell (p := ⟨g, j * 7 + 4, none⟩) (.inl ⟨_, rfl⟩) (.int .i64 x.closed)).setCell (p := ⟨g, j * 7 + 5, none⟩) (.inl ⟨_, rfl⟩) (.int .i64 x.state)).setCell (p := ⟨g, j * 7 + 6, none⟩) (.inl ⟨_, rfl⟩) (.int .i64 x.pages)).setCell (p := ⟨g, (j - 1) * 7, none⟩) (.inl ⟨_, rfl⟩) (.int .i64 l[k].id)).setCell (p := ⟨g, (j - 1) * 7 + 1, none⟩) (.inl ⟨_, rfl⟩) (.int .i64 l[k].series)).setCell (p := ⟨g, (j - 1) * 7 + 2, none⟩) (.inl ⟨_, rfl⟩) (.string l[k].title)).setCell (p := ⟨g, (j - 1) * 7 + 3, none⟩) (.inl ⟨_, rfl⟩) (.int .i64 l[k].opened)).setCell (p := ⟨g, (j - 1) * 7 + 4, none⟩) (.inl ⟨_, rfl⟩) (.int .i64 l[k].closed)).setCell (p := ⟨g, (j - 1) * 7 + 5, none⟩) (.inl ⟨_, rfl⟩) (.int .i64 l[k].state)).setCell (p := ⟨g, (j - 1) * 7 + 6, none⟩) (.inl ⟨_, rfl⟩) (.int .i64 l[k].pages)))
            go_wp2_with fail
            go_big_region
            go_wp2_with fail
            go_roundw
            case rel => exact ⟨j - 1, by omega, by go_num, HV.out.on (Below.refl _ _).drew, HW.out.drew, fun t ht h => by rcases Nat.lt_or_eq_of_le h with h9 | rfl; exact HB.out t ht (by omega); rw [← Hx.out]; have h8 := Hq.out; simpa using h8⟩
            case measure => simp [intOf]; omega
        · obtain rfl : j = 0 := by omega
          have hv1 : Vec wr base 47 encFile 7 (.slice (some ⟨g, 0, none⟩) l.length c) (halfC l (k + 1)) := by
            rw [← movC_end hk (plcC_at 0 (Nat.zero_le _) (fun t ht h => HB.out t ht h) (fun h => absurd h (Nat.lt_irrefl _)))]
            exact hvj
          clear hvj
          go_wp2_with fail
          refine wp_region_calm (by kernel_rfl) (by kernel_rfl) ?_
          repeat (go_big_quiet_step (fail))
          refine wpQuiet_nil ?_
          rintro w1 ⟨x1, hW1⟩
          have hb1 := x1.h
          rw [← hW1] at hb1
          clear hW1 x1
          go_wp2_with fail
          go_roundw
          case rel => exact ⟨k + 1, by omega, by omega, by omega, by go_num, hv1.on hb1, hwj.trans (Wr.of_below hb1)⟩
          case measure => simp [intOf]; omega
    · have he : halfC l k = srtC l l.length := by
        rcases hkz with h | h
        · obtain rfl : k = l.length := by omega
          exact halfC_end l
        · have h1 : l = [] := List.length_eq_zero_iff.1 h
          subst h1
          simp [halfC, srtC]
      have hki : ¬ (k : Int) < (l.length : Int) := by omega
      rw [he] at hvo
      go_wp2_with fail
      first | (refine bodyPost_end (results_none rfl _ _ _) rfl ?_) | ((try simp only [Exit.inBlock, Exit.then]); refine bodyPost_end (results_none rfl _ _ _) rfl ?_)
      exact ⟨⟨_, rfl⟩, hvo, hwo⟩

end Go.Proofs.YtlhihdcdbclcbaaDoor
