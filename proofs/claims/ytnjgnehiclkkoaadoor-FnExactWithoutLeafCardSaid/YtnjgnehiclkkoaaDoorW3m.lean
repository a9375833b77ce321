/- Contracts: MoveUnder. -/
import Derived.Test.YtnjgnehiclkkoaaDoorW3a
namespace Go.Proofs.YtnjgnehiclkkoaaDoor
set_option linter.unusedVariables false
set_option linter.unusedSimpArgs false
open Go.RowKit
attribute [local go_sem] Aft.cell

theorem fn_names {l : List FnD} {i : Nat} {x : FnD} (hnm : ∀ f ∈ l, f.name.size ≤ 1048576) (hx : x.name.size ≤ 1048576) : ∀ f ∈ l.set i x, f.name.size ≤ 1048576 := fun f hf => by
  rcases List.mem_or_eq_of_mem_set hf with h | rfl
  · exact hnm f h
  · exact hx
theorem Std.putFn {l : List FnD} {f : Nat → Value} (h : Std encFn 3 l f) (i : Nat) (x : FnD) : Std encFn 3 (l.set i x) (upd (upd (upd f (i * 3) (.int .i64 x.id)) (i * 3 + 1) (.int .i64 x.parent)) (i * 3 + 2) (.string x.name)) :=
  h.set encFn_len i x (fun j u hu => by
    have hj : j < 3 := by have hq := (List.getElem?_eq_some_iff.1 hu).1; rwa [encFn_len] at hq
    match j, hj, hu with
    | 0, _, hu => simp [encFn] at hu; subst hu; simp [upd]
    | 1, _, hu => simp [encFn] at hu; subst hu; simp [upd]
    | 2, _, hu => simp [encFn] at hu; subst hu; simp [upd]) (fun m hm => by rw [upd_other (by omega), upd_other (by omega), upd_other (by omega)])

theorem IsTree_b (A : Option Addr) (c : Nat) (l : List FnD) (w : World) (b : Bool) (hb : treeB l = b) (hl : Ls w w.heap.size encFn 3 A l) (hm : l.length ≤ 1048576) (hnm : ∀ f ∈ l, f.name.size ≤ 1048576) (hcap : l.length ≤ c) :
    Calls Tryd.prog 32 #[.slice A l.length c] w fun e w' => e = .returned (.bool b) ∧ Below w.heap.size w w' := by
  subst hb
  exact IsTree_any A c l w hl hm hnm hcap
theorem l3Good_b (A : Option Addr) (c : Nat) (l : List FnD) (w : World) (b : Bool) (hb : treeB l = b) (hl : Ls w w.heap.size encFn 3 A l) (hm : l.length ≤ 1048576) (hnm : ∀ f ∈ l, f.name.size ≤ 1048576) (hcap : l.length ≤ c) :
    Calls Tryd.prog 30 #[.slice A l.length c] w fun e w' => e = .returned (.bool b) ∧ Below w.heap.size w w' := by
  subst hb
  exact l3Good_any A c l w hl hm hnm hcap

set_option maxHeartbeats 4000000 in
theorem c_impl_MoveUnder (A : Option Addr) (c : Nat) (l : List FnD) (id p : Int) (w : World) (hl : Ls w w.heap.size encFn 3 A l) (hm : l.length ≤ 1048576) (hnm : ∀ f ∈ l, f.name.size ≤ 1048576) (hcap : l.length ≤ c) :
    Calls Tryd.prog 17 #[.slice A l.length c, .int .i64 id, .int .i64 p] w (RetSB w 49 encFn 3 (movL l id p) (movB l id p)) := by
  have hlm : l.length ≤ 9223372036854775807 := by omega
  have hlen : (l.length : Int) ≤ 1048576 := by omega
  have Hnm := Lib.hid hnm
  cases h2 : hasF l id
  · have Hv := Lib.hid (movB_no (p := p) (.inr (.inl h2)))
    have Hz := Lib.hid (show idxFI l id = -1 by unfold idxFI; rw [h2]; rfl)
    clear h2 hnm
    cases h1' : treeB l
    all_goals
      have h1 := Lib.hid h1'
      clear h1'
      go_enter Tryd.func17, Tryd.ntmps17
      go_wp2_with fail
      refine (functionAt_any _ _ l id _ hl hlm).mono ?_
      rw [Hz.out]
      rintro e w1 ⟨rfl, hb1⟩
      go_wp2_with fail
      refine (IsTree_b _ _ l w1 _ h1.out ((hl.below hb1).more hb1.size) hm Hnm.out hcap).mono ?_
      rintro e w2 ⟨rfl, hb2⟩
      have hB2 := blw hb1 hb2
      go_wp2_with fail
      go_ret2
      exact ⟨none, 0, by rw [Hv.out.1, Hv.out.2]; rfl, by rw [Hv.out.2]; exact Vec.nil, hB2⟩
  · have Hz := Lib.hid (show idxFI l id = (idxF l id : Int) by unfold idxFI; rw [h2]; rfl)
    have hlt := hasF_lt h2
    cases h1' : treeB l
    · have h1 := Lib.hid h1'
      have Hv := Lib.hid (movB_no (p := p) (id := id) (.inl h1'))
      clear h1' h2 hnm
      go_enter Tryd.func17, Tryd.ntmps17
      go_wp2_with fail
      refine (functionAt_any _ _ l id _ hl hlm).mono ?_
      rw [Hz.out]
      rintro e w1 ⟨rfl, hb1⟩
      go_wp2_with fail
      refine (IsTree_b _ _ l w1 _ h1.out ((hl.below hb1).more hb1.size) hm Hnm.out hcap).mono ?_
      rintro e w2 ⟨rfl, hb2⟩
      have hB2 := blw hb1 hb2
      go_wp2_with fail
      go_ret2
      exact ⟨none, 0, by rw [Hv.out.1, Hv.out.2]; rfl, by rw [Hv.out.2]; exact Vec.nil, hB2⟩
    · have h1 := Lib.hid h1'
      have hn1 : (l[idxF l id]'hlt).name.size ≤ 1048576 := hnm _ (List.getElem_mem hlt)
      have He := movF_eq h2 p
      have hnx := Lib.hid (fn_names (i := idxF l id) (x := (⟨(l[idxF l id]'hlt).id, p, (l[idxF l id]'hlt).name⟩ : FnD)) hnm hn1)
      have hlx := Lib.hid (show (l.set (idxF l id) (⟨(l[idxF l id]'hlt).id, p, (l[idxF l id]'hlt).name⟩ : FnD)).length = l.length from List.length_set)
      have hi1 : (idxF l id : Int) < (l.length : Int) := by omega
      cases h3 : treeB (l.set (idxF l id) (⟨(l[idxF l id]'hlt).id, p, (l[idxF l id]'hlt).name⟩ : FnD))
      · have Hv := Lib.hid (movB_no (p := p) (id := id) (.inr (.inr (by rw [He]; exact h3))))
        have Hk := Lib.hid h3
        clear h1' h2 h3 hnm He
        go_enter Tryd.func17, Tryd.ntmps17
        go_wp2_with fail
        refine (functionAt_any _ _ l id _ hl hlm).mono ?_
        rw [Hz.out]
        rintro e w1 ⟨rfl, hb1⟩
        go_wp2_with fail
        refine (IsTree_b _ _ l w1 _ h1.out ((hl.below hb1).more hb1.size) hm Hnm.out hcap).mono ?_
        rintro e w2 ⟨rfl, hb2⟩
        have hB2 := blw hb1 hb2
        have hl2 := (hl.below hB2).more hB2.size
        have hz2 := hB2.size
        go_wp2_with fail
        refine (Clone_Function _ _ l _ hl2 hm).mono ?_
        rintro e w3 ⟨A3, c3, rfl, hv3, hb3⟩
        have hB3 := blw hB2 hb3
        obtain ⟨g, rfl⟩ := hv3.some (by omega)
        obtain ⟨f, hr, hbg, hlc, hcm, hstd⟩ := hv3.rowf encFn_len
        have hsf := hr.frozen
        have hs1 := hr.cell (i := idxF l id * 3 + 1) (by omega)
        have hst2 := hstd.upd1 encFn_len (idxF l id) hlt (⟨(l[idxF l id]'hlt).id, p, (l[idxF l id]'hlt).name⟩ : FnD) 1 (.int .i64 p) (by omega) rfl
        have hv4 : Vec (w3.setCell ⟨g, idxF l id * 3 + 1, none⟩ (.int .i64 p)) w2.heap.size 49 encFn 3 (.slice (some ⟨g, 0, none⟩) (l.set (idxF l id) (⟨(l[idxF l id]'hlt).id, p, (l[idxF l id]'hlt).name⟩ : FnD)).length c3) (l.set (idxF l id) (⟨(l[idxF l id]'hlt).id, p, (l[idxF l id]'hlt).name⟩ : FnD)) := RowF.vec (hr.put (idxF l id * 3 + 1) _) encFn_len hbg (by simpa using hlc) hcm hst2
        have hB4 : Below w.heap.size w (w3.setCell ⟨g, idxF l id * 3 + 1, none⟩ (.int .i64 p)) := hB3.setCell (p := ⟨g, _, none⟩) (Nat.le_trans hz2 hbg) _
        clear hst2 hstd
        go_wp2_with fail
        refine (IsTree_n _ _ _ (l.set (idxF l id) (⟨(l[idxF l id]'hlt).id, p, (l[idxF l id]'hlt).name⟩ : FnD)) _ hlx.out (hv4.ls encFn_len) (by rw [hlx.out]; omega) hnx.out (by rw [hlx.out]; exact hlc)).mono ?_
        rw [Hk.out]
        rintro e w5 ⟨rfl, hb5⟩
        have hB5 := blw hB4 hb5
        go_wp2_with fail
        go_ret2
        exact ⟨none, 0, by rw [Hv.out.1, Hv.out.2]; rfl, by rw [Hv.out.2]; exact Vec.nil, hB5⟩
      · have Hv := Lib.hid (show movB l id p = true ∧ movL l id p = l.set (idxF l id) (⟨(l[idxF l id]'hlt).id, p, (l[idxF l id]'hlt).name⟩ : FnD) by rw [← He]; exact movB_yes h1' h2 (by rw [He]; exact h3))
        have Hk := Lib.hid h3
        clear h1' h2 h3 hnm He
        go_enter Tryd.func17, Tryd.ntmps17
        go_wp2_with fail
        refine (functionAt_any _ _ l id _ hl hlm).mono ?_
        rw [Hz.out]
        rintro e w1 ⟨rfl, hb1⟩
        go_wp2_with fail
        refine (IsTree_b _ _ l w1 _ h1.out ((hl.below hb1).more hb1.size) hm Hnm.out hcap).mono ?_
        rintro e w2 ⟨rfl, hb2⟩
        have hB2 := blw hb1 hb2
        have hl2 := (hl.below hB2).more hB2.size
        have hz2 := hB2.size
        go_wp2_with fail
        refine (Clone_Function _ _ l _ hl2 hm).mono ?_
        rintro e w3 ⟨A3, c3, rfl, hv3, hb3⟩
        have hB3 := blw hB2 hb3
        obtain ⟨g, rfl⟩ := hv3.some (by omega)
        obtain ⟨f, hr, hbg, hlc, hcm, hstd⟩ := hv3.rowf encFn_len
        have hsf := hr.frozen
        have hs1 := hr.cell (i := idxF l id * 3 + 1) (by omega)
        have hst2 := hstd.upd1 encFn_len (idxF l id) hlt (⟨(l[idxF l id]'hlt).id, p, (l[idxF l id]'hlt).name⟩ : FnD) 1 (.int .i64 p) (by omega) rfl
        have hv4 : Vec (w3.setCell ⟨g, idxF l id * 3 + 1, none⟩ (.int .i64 p)) w2.heap.size 49 encFn 3 (.slice (some ⟨g, 0, none⟩) (l.set (idxF l id) (⟨(l[idxF l id]'hlt).id, p, (l[idxF l id]'hlt).name⟩ : FnD)).length c3) (l.set (idxF l id) (⟨(l[idxF l id]'hlt).id, p, (l[idxF l id]'hlt).name⟩ : FnD)) := RowF.vec (hr.put (idxF l id * 3 + 1) _) encFn_len hbg (by simpa using hlc) hcm hst2
        have hB4 : Below w.heap.size w (w3.setCell ⟨g, idxF l id * 3 + 1, none⟩ (.int .i64 p)) := hB3.setCell (p := ⟨g, _, none⟩) (Nat.le_trans hz2 hbg) _
        clear hst2 hstd
        go_wp2_with fail
        refine (IsTree_n _ _ _ (l.set (idxF l id) (⟨(l[idxF l id]'hlt).id, p, (l[idxF l id]'hlt).name⟩ : FnD)) _ hlx.out (hv4.ls encFn_len) (by rw [hlx.out]; omega) hnx.out (by rw [hlx.out]; exact hlc)).mono ?_
        rw [Hk.out]
        rintro e w5 ⟨rfl, hb5⟩
        have hB5 := blw hB4 hb5
        go_wp2_with fail
        go_ret2
        exact ⟨some ⟨g, 0, none⟩, c3, by rw [Hv.out.1, Hv.out.2, hlx.out]; rfl, by rw [Hv.out.2]; exact (hv4.on hb5).mono hz2, hB5⟩

set_option maxHeartbeats 4000000 in
theorem c_spec_MoveUnder (A : Option Addr) (c : Nat) (l : List FnD) (id p : Int) (w : World) (hl : Ls w w.heap.size encFn 3 A l) (hm : l.length ≤ 1048576) (hnm : ∀ f ∈ l, f.name.size ≤ 1048576) (hcap : l.length ≤ c) :
    Calls Tryd.prog 16 #[.slice A l.length c, .int .i64 id, .int .i64 p] w (RetSB w 49 encFn 3 (movL l id p) (movB l id p)) := by
  have hlm : l.length ≤ 9223372036854775807 := by omega
  have hlen : (l.length : Int) ≤ 1048576 := by omega
  have Hnm := Lib.hid hnm
  cases h2 : hasF l id
  · have Hv := Lib.hid (movB_no (p := p) (.inr (.inl h2)))
    have Hz := Lib.hid (show idxFI l id = -1 by unfold idxFI; rw [h2]; rfl)
    clear h2 hnm
    cases h1' : treeB l
    all_goals
      have h1 := Lib.hid h1'
      clear h1'
      go_enter Tryd.func16, Tryd.ntmps16
      go_wp2_with fail
      refine (l3Find_any _ _ l id _ hl hlm).mono ?_
      rw [Hz.out]
      rintro e w1 ⟨rfl, hb1⟩
      go_wp2_with fail
      refine (l3Good_b _ _ l w1 _ h1.out ((hl.below hb1).more hb1.size) hm Hnm.out hcap).mono ?_
      rintro e w2 ⟨rfl, hb2⟩
      have hB2 := blw hb1 hb2
      go_wp2_with fail
      go_ret2
      exact ⟨_, 0, by rw [Hv.out.1, Hv.out.2]; rfl, by rw [Hv.out.2]; exact Vec.empty _ _ _ (hB2).size, blw_alloc (hB2) _⟩
  · have Hz := Lib.hid (show idxFI l id = (idxF l id : Int) by unfold idxFI; rw [h2]; rfl)
    have hlt := hasF_lt h2
    cases h1' : treeB l
    · have h1 := Lib.hid h1'
      have Hv := Lib.hid (movB_no (p := p) (id := id) (.inl h1'))
      clear h1' h2 hnm
      go_enter Tryd.func16, Tryd.ntmps16
      go_wp2_with fail
      refine (l3Find_any _ _ l id _ hl hlm).mono ?_
      rw [Hz.out]
      rintro e w1 ⟨rfl, hb1⟩
      go_wp2_with fail
      refine (l3Good_b _ _ l w1 _ h1.out ((hl.below hb1).more hb1.size) hm Hnm.out hcap).mono ?_
      rintro e w2 ⟨rfl, hb2⟩
      have hB2 := blw hb1 hb2
      go_wp2_with fail
      go_ret2
      exact ⟨_, 0, by rw [Hv.out.1, Hv.out.2]; rfl, by rw [Hv.out.2]; exact Vec.empty _ _ _ (hB2).size, blw_alloc (hB2) _⟩
    · have h1 := Lib.hid h1'
      have hn1 : (l[idxF l id]'hlt).name.size ≤ 1048576 := hnm _ (List.getElem_mem hlt)
      have He := movF_eq h2 p
      have hnx := Lib.hid (fn_names (i := idxF l id) (x := (⟨(l[idxF l id]'hlt).id, p, (l[idxF l id]'hlt).name⟩ : FnD)) hnm hn1)
      have hlx := Lib.hid (show (l.set (idxF l id) (⟨(l[idxF l id]'hlt).id, p, (l[idxF l id]'hlt).name⟩ : FnD)).length = l.length from List.length_set)
      have hi1 : (idxF l id : Int) < (l.length : Int) := by omega
      cases h3 : treeB (l.set (idxF l id) (⟨(l[idxF l id]'hlt).id, p, (l[idxF l id]'hlt).name⟩ : FnD))
      · have hE1 : ([] : List FnD).length + l.length ≤ maxLen := by unfold maxLen; simp; omega
        have hE2 : (([] : List FnD).length + l.length) * 32 ≤ 140737488355328 := by simp; omega
        have Hv := Lib.hid (movB_no (p := p) (id := id) (.inr (.inr (by rw [He]; exact h3))))
        have Hk := Lib.hid h3
        clear h1' h2 h3 hnm He
        go_enter Tryd.func16, Tryd.ntmps16
        go_wp2_with fail
        refine (l3Find_any _ _ l id _ hl hlm).mono ?_
        rw [Hz.out]
        rintro e w1 ⟨rfl, hb1⟩
        go_wp2_with fail
        refine (l3Good_b _ _ l w1 _ h1.out ((hl.below hb1).more hb1.size) hm Hnm.out hcap).mono ?_
        rintro e w2 ⟨rfl, hb2⟩
        have hB2 := blw hb1 hb2
        have hl2 := (hl.below hB2).more hB2.size
        have hz2 := hB2.size
        obtain ⟨b, off, rfl, hbb, hc0, hc1, hc2⟩ := hl2.at_Function hlt
        go_wp2_with (at_builtin; refine wpList_app rfl (.tmp 22) (.tmp 23) 24 rfl 49 (.agg #[.int .i64 0, .int .i64 0, .string ⟨#[]⟩]) 3 32 Tryd.underlying24 (by kernel_rfl) rfl (by omega) encFn_len one_fn (some ⟨w2.heap.size, 0, none⟩) 0 ([] : List FnD) rfl (Vec.empty _ _ _ (Nat.le_refl _)) _ _ _ l rfl (hl2.below ((Below.refl _ _).alloc (Nat.le_refl _) _)) hE1 hE2 (by simp) ?_; intro A3 c3 w3 hv3 hw3; replace hv3 : Vec w3 w2.heap.size 49 encFn 3 (.slice A3 l.length c3) l := hv3; obtain ⟨g, rfl⟩ := hv3.some (by omega); obtain ⟨f, hr, hbg, hlc, hcm, hstd⟩ := hv3.rowf encFn_len; have hbw3 : Below w2.heap.size w2 w3 := ((Below.refl _ _).alloc (Nat.le_refl _) _).trans (hw3.below (by simp) (fun q hq => by obtain ⟨o, ho⟩ := hq; simp at ho; omega)); have hbb3 : b < w3.heap.size := (by have := hbw3.size; omega); replace hc0 : w3.cell? ⟨b, off + idxF l id * 3, none⟩ = some (.int .i64 (l[idxF l id]'hlt).id) := (hbw3.cell (p := ⟨b, off + idxF l id * 3, none⟩) hbb).trans hc0; replace hc1 : w3.cell? ⟨b, off + idxF l id * 3 + 1, none⟩ = some (.int .i64 (l[idxF l id]'hlt).parent) := (hbw3.cell (p := ⟨b, off + idxF l id * 3 + 1, none⟩) hbb).trans hc1; replace hc2 : w3.cell? ⟨b, off + idxF l id * 3 + 2, none⟩ = some (.string (l[idxF l id]'hlt).name) := (hbw3.cell (p := ⟨b, off + idxF l id * 3 + 2, none⟩) hbb).trans hc2; have hgl := hr.lt; have hgn : g ≠ w3.heap.size := (by omega); have hsf := hr.frozen; have hs0 := hr.cell (i := idxF l id * 3) (by omega); have hs1 := hr.cell (i := idxF l id * 3 + 1) (by omega); have hs2 := hr.cell (i := idxF l id * 3 + 2) (by omega))
        have hst2 := hstd.putFn (idxF l id) (⟨(l[idxF l id]'hlt).id, p, (l[idxF l id]'hlt).name⟩ : FnD)
        have hv4 := (RowF.vec (((hr.put (idxF l id * 3) (.int .i64 (l[idxF l id]'hlt).id)).put (idxF l id * 3 + 1) (.int .i64 p)).put (idxF l id * 3 + 2) (.string (l[idxF l id]'hlt).name)) encFn_len hbg (by simpa using hlc) hcm hst2).alloc (.cells #[.int .i64 (l[idxF l id]'hlt).id, .int .i64 p, .string (l[idxF l id]'hlt).name] 49)
        have hB4 := blw_alloc ((((blw hB2 hbw3).setCell (p := ⟨g, idxF l id * 3, none⟩) (Nat.le_trans hz2 hbg) (.int .i64 (l[idxF l id]'hlt).id)).setCell (p := ⟨g, idxF l id * 3 + 1, none⟩) (Nat.le_trans hz2 hbg) (.int .i64 p)).setCell (p := ⟨g, idxF l id * 3 + 2, none⟩) (Nat.le_trans hz2 hbg) (.string (l[idxF l id]'hlt).name)) (.cells #[.int .i64 (l[idxF l id]'hlt).id, .int .i64 p, .string (l[idxF l id]'hlt).name] 49)
        clear hst2
        refine (l3Good_n _ _ _ (l.set (idxF l id) (⟨(l[idxF l id]'hlt).id, p, (l[idxF l id]'hlt).name⟩ : FnD)) _ hlx.out (hv4.ls encFn_len) (by rw [hlx.out]; omega) hnx.out (by rw [hlx.out]; exact hlc)).mono ?_
        rw [Hk.out]
        rintro e w5 ⟨rfl, hb5⟩
        have hB5 := blw hB4 hb5
        go_wp2_with fail
        go_ret2
        exact ⟨_, 0, by rw [Hv.out.1, Hv.out.2]; rfl, by rw [Hv.out.2]; exact Vec.empty _ _ _ (hB5).size, blw_alloc (hB5) _⟩
      · have hE1 : ([] : List FnD).length + l.length ≤ maxLen := by unfold maxLen; simp; omega
        have hE2 : (([] : List FnD).length + l.length) * 32 ≤ 140737488355328 := by simp; omega
        have Hv := Lib.hid (show movB l id p = true ∧ movL l id p = l.set (idxF l id) (⟨(l[idxF l id]'hlt).id, p, (l[idxF l id]'hlt).name⟩ : FnD) by rw [← He]; exact movB_yes h1' h2 (by rw [He]; exact h3))
        have Hk := Lib.hid h3
        clear h1' h2 h3 hnm He
        go_enter Tryd.func16, Tryd.ntmps16
        go_wp2_with fail
        refine (l3Find_any _ _ l id _ hl hlm).mono ?_
        rw [Hz.out]
        rintro e w1 ⟨rfl, hb1⟩
        go_wp2_with fail
        refine (l3Good_b _ _ l w1 _ h1.out ((hl.below hb1).more hb1.size) hm Hnm.out hcap).mono ?_
        rintro e w2 ⟨rfl, hb2⟩
        have hB2 := blw hb1 hb2
        have hl2 := (hl.below hB2).more hB2.size
        have hz2 := hB2.size
        obtain ⟨b, off, rfl, hbb, hc0, hc1, hc2⟩ := hl2.at_Function hlt
        go_wp2_with (at_builtin; refine wpList_app rfl (.tmp 22) (.tmp 23) 24 rfl 49 (.agg #[.int .i64 0, .int .i64 0, .string ⟨#[]⟩]) 3 32 Tryd.underlying24 (by kernel_rfl) rfl (by omega) encFn_len one_fn (some ⟨w2.heap.size, 0, none⟩) 0 ([] : List FnD) rfl (Vec.empty _ _ _ (Nat.le_refl _)) _ _ _ l rfl (hl2.below ((Below.refl _ _).alloc (Nat.le_refl _) _)) hE1 hE2 (by simp) ?_; intro A3 c3 w3 hv3 hw3; replace hv3 : Vec w3 w2.heap.size 49 encFn 3 (.slice A3 l.length c3) l := hv3; obtain ⟨g, rfl⟩ := hv3.some (by omega); obtain ⟨f, hr, hbg, hlc, hcm, hstd⟩ := hv3.rowf encFn_len; have hbw3 : Below w2.heap.size w2 w3 := ((Below.refl _ _).alloc (Nat.le_refl _) _).trans (hw3.below (by simp) (fun q hq => by obtain ⟨o, ho⟩ := hq; simp at ho; omega)); have hbb3 : b < w3.heap.size := (by have := hbw3.size; omega); replace hc0 : w3.cell? ⟨b, off + idxF l id * 3, none⟩ = some (.int .i64 (l[idxF l id]'hlt).id) := (hbw3.cell (p := ⟨b, off + idxF l id * 3, none⟩) hbb).trans hc0; replace hc1 : w3.cell? ⟨b, off + idxF l id * 3 + 1, none⟩ = some (.int .i64 (l[idxF l id]'hlt).parent) := (hbw3.cell (p := ⟨b, off + idxF l id * 3 + 1, none⟩) hbb).trans hc1; replace hc2 : w3.cell? ⟨b, off + idxF l id * 3 + 2, none⟩ = some (.string (l[idxF l id]'hlt).name) := (hbw3.cell (p := ⟨b, off + idxF l id * 3 + 2, none⟩) hbb).trans hc2; have hgl := hr.lt; have hgn : g ≠ w3.heap.size := (by omega); have hsf := hr.frozen; have hs0 := hr.cell (i := idxF l id * 3) (by omega); have hs1 := hr.cell (i := idxF l id * 3 + 1) (by omega); have hs2 := hr.cell (i := idxF l id * 3 + 2) (by omega))
        have hst2 := hstd.putFn (idxF l id) (⟨(l[idxF l id]'hlt).id, p, (l[idxF l id]'hlt).name⟩ : FnD)
        have hv4 := (RowF.vec (((hr.put (idxF l id * 3) (.int .i64 (l[idxF l id]'hlt).id)).put (idxF l id * 3 + 1) (.int .i64 p)).put (idxF l id * 3 + 2) (.string (l[idxF l id]'hlt).name)) encFn_len hbg (by simpa using hlc) hcm hst2).alloc (.cells #[.int .i64 (l[idxF l id]'hlt).id, .int .i64 p, .string (l[idxF l id]'hlt).name] 49)
        have hB4 := blw_alloc ((((blw hB2 hbw3).setCell (p := ⟨g, idxF l id * 3, none⟩) (Nat.le_trans hz2 hbg) (.int .i64 (l[idxF l id]'hlt).id)).setCell (p := ⟨g, idxF l id * 3 + 1, none⟩) (Nat.le_trans hz2 hbg) (.int .i64 p)).setCell (p := ⟨g, idxF l id * 3 + 2, none⟩) (Nat.le_trans hz2 hbg) (.string (l[idxF l id]'hlt).name)) (.cells #[.int .i64 (l[idxF l id]'hlt).id, .int .i64 p, .string (l[idxF l id]'hlt).name] 49)
        clear hst2
        refine (l3Good_n _ _ _ (l.set (idxF l id) (⟨(l[idxF l id]'hlt).id, p, (l[idxF l id]'hlt).name⟩ : FnD)) _ hlx.out (hv4.ls encFn_len) (by rw [hlx.out]; omega) hnx.out (by rw [hlx.out]; exact hlc)).mono ?_
        rw [Hk.out]
        rintro e w5 ⟨rfl, hb5⟩
        have hB5 := blw hB4 hb5
        go_wp2_with fail
        go_ret2
        exact ⟨some ⟨g, 0, none⟩, c3, by rw [Hv.out.1, Hv.out.2, hlx.out]; rfl, by rw [Hv.out.2]; exact (hv4.on hb5).mono hz2, hB5⟩

end Go.Proofs.YtnjgnehiclkkoaaDoor
