/- Contracts: AreRecords. -/
import Derived.Test.YtoohbpaheeckpaaW2
import Derived.Test.YtoohbpaheeckpaaHRecS
namespace Go.Proofs.Ytoohbpaheeckpaa
set_option linter.unusedVariables false
set_option linter.unusedSimpArgs false
open Go.RowKit
attribute [local go_sem] Aft.cell

abbrev RD := Int × Int × Int × List Ev
def pidD (d : List RD) (i : Nat) : Int := (d[i]?).elim 0 (·.1)
def recAtD (d : List RD) (i : Nat) : Bool := match d[i]? with
  | none => false
  | some x => recB x.1 x.2.1 x.2.2.1 x.2.2.2 && (decide (i = 0) || decide (pidD d (i - 1) < x.1))
def recsD (d : List RD) : Bool := (List.range d.length).all (recAtD d) && decide (d.length ≤ 10)
def ridAt (l : List Rec) (i : Nat) : Int := pidD (l.map dat) i
def recAtR (l : List Rec) (i : Nat) : Bool := recAtD (l.map dat) i
def recsB (l : List Rec) : Bool := recsD (l.map dat)
theorem ridAt_eq {l : List Rec} {i : Nat} (h : i < l.length) : l[i].id = ridAt l i := by simp [ridAt, pidD, h, dat]
theorem recsB_dat {l l' : List Rec} (h : l'.map dat = l.map dat) : recsB l' = recsB l := by unfold recsB; rw [h]
theorem recAtR_cases {l : List Rec} {k : Nat} (h : k < l.length) :
    (recB l[k].id l[k].series l[k].made l[k].evs = false ∧ recAtR l k = false) ∨
    (recB l[k].id l[k].series l[k].made l[k].evs = true ∧ decide (0 < k) = true ∧ decide (ridAt l (k - 1) < l[k].id) = false ∧ recAtR l k = false) ∨
    (recB l[k].id l[k].series l[k].made l[k].evs = true ∧ (decide (0 < k) = false ∨ (decide (0 < k) = true ∧ decide (ridAt l (k - 1) < l[k].id) = true)) ∧ recAtR l k = true) := by
  have hf : (l.map dat)[k]? = some (dat l[k]) := by simp [h]
  have hz : decide (k = 0) = !decide (0 < k) := by by_cases hk : k = 0 <;> simp [hk]; omega
  have e : recAtR l k = (recB l[k].id l[k].series l[k].made l[k].evs && (!decide (0 < k) || decide (ridAt l (k - 1) < l[k].id))) := by
    unfold recAtR recAtD
    rw [hf, ← hz]
    rfl
  rw [e]
  cases recB l[k].id l[k].series l[k].made l[k].evs <;> cases decide (0 < k) <;> cases decide (ridAt l (k - 1) < l[k].id) <;> simp
theorem recsB_bad {l : List Rec} (k : Nat) (h : k < l.length) (hb : recAtR l k = false) : recsB l = false := by
  unfold recsB recsD
  have : (List.range (l.map dat).length).all (recAtD (l.map dat)) = false := by
    rw [List.all_eq_false]
    exact ⟨k, by simpa using h, by rw [show recAtD (l.map dat) k = false from hb]; exact Bool.false_ne_true⟩
  rw [this]; rfl
theorem recsB_end {l : List Rec} (h : ∀ i, i < l.length → recAtR l i = true) : recsB l = decide (l.length ≤ 10) := by
  unfold recsB recsD
  have : (List.range (l.map dat).length).all (recAtD (l.map dat)) = true := by
    rw [List.all_eq_true]
    intro i hi
    exact h i (by simpa using hi)
  rw [this, Bool.true_and, List.length_map]

set_option maxHeartbeats 2000000 in
theorem AreRecords_any (A : Option Addr) (c : Nat) (l : List Rec) (w : World) (hl : Ls w w.heap.size encRec 4 A l) (he : EvR w l) (hm : l.length + totR l ≤ 1048576) :
    Calls Try.prog 9 #[.slice A l.length c] w fun e w' => e = .returned (.bool (recsB l)) ∧ Below w.heap.size w w' := by
  have hlen : (l.length : Int) ≤ 1048576 := by omega
  go_enter Try.func9, Try.ntmps9
  go_wp2_with fail
  go_loopw [7] (fun i wr => ∃ k : Nat, k ≤ l.length ∧ i = .int .i64 k ∧ Below w.heap.size w wr ∧ Hid (∀ j, j < k → recAtR l j = true)) (fun i _ => l.length - (intOf i).toNat)
  case atStart => exact ⟨0, Nat.zero_le _, rfl, Below.refl _ _, fun j hj => absurd hj (Nat.not_lt_zero _)⟩
  case round =>
    obtain ⟨k, hk, rfl, hb, hall⟩ := hrel
    by_cases hlt : k < l.length
    · obtain ⟨b, off, rfl, hbb, hc0, hc1, hc2, hc3⟩ := (hl.below hb).at_Record hlt
      have hel := ((he l[k] (List.getElem_mem hlt)).below hb).more hb.size
      have hml : l[k].evs.length ≤ 9223372036854775807 := by have := totR_mem (List.getElem_mem hlt); omega
      have hsz := hb.size
      have hs4 : b < wr.heap.size := by omega
      have hs5 : b < wr.heap.size + 1 := by omega
      rcases recAtR_cases hlt with ⟨h1, hv⟩ | ⟨h1, h2, h3, hv⟩ | ⟨h1, h2, hv⟩
      · have Hv := Lib.hid (recsB_bad k hlt hv)
        clear hv
        go_wp2_with fail
        refine wp_region_calm (by kernel_rfl) (by kernel_rfl) ?_
        repeat (go_big_quiet_step ((go_at_call 26; refine Calls.calm (IsRecord_any _ _ _ _ _ l[k].evs _ (((hel.alloc (Nat.le_refl _) _ |>.more (by simp)).below (Aft.h _)).more (Aft.h _).size) hml))))
        refine wpQuiet_nil ?_
        rintro w1 ⟨x1, hW1⟩
        have hb1 := x1.h
        rw [← hW1] at hb1
        clear hW1 x1
        go_wp2_with fail
        go_ret
        exact ⟨ret_bool Hv.out.symm, blw (blw_alloc hb _) hb1⟩
      · have Hv := Lib.hid (recsB_bad k hlt hv)
        clear hv
        obtain ⟨b', off', hbo, _, hp1, _, _, _⟩ := (hl.below hb).at_Record (show k - 1 < l.length by omega)
        cases hbo
        rw [ridAt_eq] at hp1
        have hk0 : 0 < k := by simpa using h2
        have hi1 : 1 ≤ (k : Int) := by omega
        have hi2 : (k : Int) - 1 < (l.length : Int) := by omega
        have h5 : l[k].id ≤ ridAt l (k - 1) := by simpa using h3
        clear h3
        go_wp2_with fail
        refine wp_region_calm (by kernel_rfl) (by kernel_rfl) ?_
        repeat (go_big_quiet_step ((go_at_call 26; refine Calls.calm (IsRecord_any _ _ _ _ _ l[k].evs _ (((hel.alloc (Nat.le_refl _) _ |>.more (by simp)).below (Aft.h _)).more (Aft.h _).size) hml))))
        refine wpQuiet_nil ?_
        rintro w1 ⟨x1, hW1⟩
        have hb1 := x1.h
        rw [← hW1] at hb1
        clear hW1 x1
        go_wp2_with fail
        go_ret
        exact ⟨ret_bool Hv.out.symm, blw (blw_alloc hb _) hb1⟩
      · have Hg := Lib.hid hv
        clear hv
        rcases h2 with h2 | ⟨h2, h5⟩
        · have hk1 : ¬ 0 < k := by simpa using h2
          go_wp2_with fail
          refine wp_region_calm (by kernel_rfl) (by kernel_rfl) ?_
          repeat (go_big_quiet_step ((go_at_call 26; refine Calls.calm (IsRecord_any _ _ _ _ _ l[k].evs _ (((hel.alloc (Nat.le_refl _) _ |>.more (by simp)).below (Aft.h _)).more (Aft.h _).size) hml))))
          refine wpQuiet_nil ?_
          rintro w1 ⟨x1, hW1⟩
          have hb1 := x1.h
          rw [← hW1] at hb1
          clear hW1 x1
          go_wp2_with fail
          go_roundw
          case rel => exact ⟨k + 1, by omega, by go_num, blw (blw_alloc hb _) hb1, fun j hj => by rcases Nat.lt_succ_iff_lt_or_eq.1 hj with h | rfl; exact hall.out _ h; exact Hg.out⟩
          case measure => simp [intOf]; omega
        · have h6 : ridAt l (k - 1) < l[k].id := by simpa using h5
          have h7 : decide (l[k].id ≤ ridAt l (k - 1)) = false := by simp; omega
          clear h5
          obtain ⟨b', off', hbo, _, hp1, _, _, _⟩ := (hl.below hb).at_Record (show k - 1 < l.length by omega)
          cases hbo
          rw [ridAt_eq] at hp1
          have hk0 : 0 < k := by simpa using h2
          have hi1 : 1 ≤ (k : Int) := by omega
          have hi2 : (k : Int) - 1 < (l.length : Int) := by omega
          go_wp2_with fail
          refine wp_region_calm (by kernel_rfl) (by kernel_rfl) ?_
          repeat (go_big_quiet_step ((go_at_call 26; refine Calls.calm (IsRecord_any _ _ _ _ _ l[k].evs _ (((hel.alloc (Nat.le_refl _) _ |>.more (by simp)).below (Aft.h _)).more (Aft.h _).size) hml))))
          refine wpQuiet_nil ?_
          rintro w1 ⟨x1, hW1⟩
          have hb1 := x1.h
          rw [← hW1] at hb1
          clear hW1 x1
          go_wp2_with fail
          go_roundw
          case rel => exact ⟨k + 1, by omega, by go_num, blw (blw_alloc hb _) hb1, fun j hj => by rcases Nat.lt_succ_iff_lt_or_eq.1 hj with h | rfl; exact hall.out _ h; exact Hg.out⟩
          case measure => simp [intOf]; omega
    · have hkk : k = l.length := by omega
      subst hkk
      have Hv := Lib.hid (recsB_end hall.out)
      go_wp2_with fail
      go_ret
      exact ⟨ret_bool (by rw [Hv.out]; simp; omega), hb⟩

set_option maxHeartbeats 2000000 in
theorem l2Records_any (A : Option Addr) (c : Nat) (l : List Rec) (w : World) (hl : Ls w w.heap.size encRec 4 A l) (he : EvR w l) (hm : l.length + totR l ≤ 1048576) :
    Calls Try.prog 25 #[.slice A l.length c] w fun e w' => e = .returned (.bool (recsB l)) ∧ Below w.heap.size w w' := by
  have hlen : (l.length : Int) ≤ 1048576 := by omega
  go_enter Try.func25, Try.ntmps25
  go_wp2_with fail
  go_loopw [3] (fun i wr => ∃ k : Nat, k ≤ l.length ∧ i = .int .i64 k ∧ Below w.heap.size w wr ∧ Hid (∀ j, j < k → recAtR l j = true)) (fun i _ => l.length - (intOf i).toNat)
  case atStart => exact ⟨0, Nat.zero_le _, rfl, Below.refl _ _, fun j hj => absurd hj (Nat.not_lt_zero _)⟩
  case round =>
    obtain ⟨k, hk, rfl, hb, hall⟩ := hrel
    by_cases hlt : k < l.length
    · obtain ⟨b, off, rfl, hbb, hc0, hc1, hc2, hc3⟩ := (hl.below hb).at_Record hlt
      have hel := ((he l[k] (List.getElem_mem hlt)).below hb).more hb.size
      have hml : l[k].evs.length ≤ 9223372036854775807 := by have := totR_mem (List.getElem_mem hlt); omega
      have hsz := hb.size
      have hs4 : b < wr.heap.size := by omega
      have hs5 : b < wr.heap.size + 1 := by omega
      rcases recAtR_cases hlt with ⟨h1, hv⟩ | ⟨h1, h2, h3, hv⟩ | ⟨h1, h2, hv⟩
      · have Hv := Lib.hid (recsB_bad k hlt hv)
        clear hv
        go_wp2_with fail
        refine wp_region_calm (by kernel_rfl) (by kernel_rfl) ?_
        repeat (go_big_quiet_step ((go_at_call 28; refine Calls.calm (l2Record_any _ _ _ _ _ l[k].evs _ ((hel.below (Aft.h _)).more (Aft.h _).size) hml))))
        refine wpQuiet_nil ?_
        rintro w1 ⟨x1, hW1⟩
        have hb1 := x1.h
        rw [← hW1] at hb1
        clear hW1 x1
        go_wp2_with fail
        go_ret
        exact ⟨ret_bool Hv.out.symm, blw hb hb1⟩
      · have Hv := Lib.hid (recsB_bad k hlt hv)
        clear hv
        obtain ⟨b', off', hbo, _, hp1, _, _, _⟩ := (hl.below hb).at_Record (show k - 1 < l.length by omega)
        cases hbo
        rw [ridAt_eq] at hp1
        have hk0 : 0 < k := by simpa using h2
        have hi1 : 1 ≤ (k : Int) := by omega
        have hi2 : (k : Int) - 1 < (l.length : Int) := by omega
        have h5 : l[k].id ≤ ridAt l (k - 1) := by simpa using h3
        clear h3
        go_wp2_with fail
        refine wp_region_calm (by kernel_rfl) (by kernel_rfl) ?_
        repeat (go_big_quiet_step ((go_at_call 28; refine Calls.calm (l2Record_any _ _ _ _ _ l[k].evs _ ((hel.below (Aft.h _)).more (Aft.h _).size) hml))))
        refine wpQuiet_nil ?_
        rintro w1 ⟨x1, hW1⟩
        have hb1 := x1.h
        rw [← hW1] at hb1
        clear hW1 x1
        go_wp2_with fail
        go_ret
        exact ⟨ret_bool Hv.out.symm, blw hb hb1⟩
      · have Hg := Lib.hid hv
        clear hv
        rcases h2 with h2 | ⟨h2, h5⟩
        · have hk1 : ¬ 0 < k := by simpa using h2
          go_wp2_with fail
          refine wp_region_calm (by kernel_rfl) (by kernel_rfl) ?_
          repeat (go_big_quiet_step ((go_at_call 28; refine Calls.calm (l2Record_any _ _ _ _ _ l[k].evs _ ((hel.below (Aft.h _)).more (Aft.h _).size) hml))))
          refine wpQuiet_nil ?_
          rintro w1 ⟨x1, hW1⟩
          have hb1 := x1.h
          rw [← hW1] at hb1
          clear hW1 x1
          go_wp2_with fail
          go_roundw
          case rel => exact ⟨k + 1, by omega, by go_num, blw hb hb1, fun j hj => by rcases Nat.lt_succ_iff_lt_or_eq.1 hj with h | rfl; exact hall.out _ h; exact Hg.out⟩
          case measure => simp [intOf]; omega
        · have h6 : ridAt l (k - 1) < l[k].id := by simpa using h5
          have h7 : decide (l[k].id ≤ ridAt l (k - 1)) = false := by simp; omega
          clear h5
          obtain ⟨b', off', hbo, _, hp1, _, _, _⟩ := (hl.below hb).at_Record (show k - 1 < l.length by omega)
          cases hbo
          rw [ridAt_eq] at hp1
          have hk0 : 0 < k := by simpa using h2
          have hi1 : 1 ≤ (k : Int) := by omega
          have hi2 : (k : Int) - 1 < (l.length : Int) := by omega
          go_wp2_with fail
          refine wp_region_calm (by kernel_rfl) (by kernel_rfl) ?_
          repeat (go_big_quiet_step ((go_at_call 28; refine Calls.calm (l2Record_any _ _ _ _ _ l[k].evs _ ((hel.below (Aft.h _)).more (Aft.h _).size) hml))))
          refine wpQuiet_nil ?_
          rintro w1 ⟨x1, hW1⟩
          have hb1 := x1.h
          rw [← hW1] at hb1
          clear hW1 x1
          go_wp2_with fail
          go_roundw
          case rel => exact ⟨k + 1, by omega, by go_num, blw hb hb1, fun j hj => by rcases Nat.lt_succ_iff_lt_or_eq.1 hj with h | rfl; exact hall.out _ h; exact Hg.out⟩
          case measure => simp [intOf]; omega
    · have hkk : k = l.length := by omega
      subst hkk
      have Hv := Lib.hid (recsB_end hall.out)
      go_wp2_with fail
      go_ret
      exact ⟨ret_bool (by rw [Hv.out]; simp; omega), hb⟩

set_option maxHeartbeats 400000 in
theorem c_spec_AreRecords (A : Option Addr) (c : Nat) (l : List Rec) (w : World) (hl : Ls w w.heap.size encRec 4 A l) (he : EvR w l) (hm : l.length + totR l ≤ 1048576) :
    Calls Try.prog 7 #[.slice A l.length c] w fun e w' => e = .returned (.bool (recsB l)) ∧ Below w.heap.size w w' := by
  go_enter Try.func7, Try.ntmps7
  go_wp2_with (go_at_call 25; refine (l2Records_any _ _ l _ hl he hm).mono ?_; rintro e w1 ⟨rfl, hb1⟩)
  go_ret
  exact ⟨rfl, hb1⟩

end Go.Proofs.Ytoohbpaheeckpaa
