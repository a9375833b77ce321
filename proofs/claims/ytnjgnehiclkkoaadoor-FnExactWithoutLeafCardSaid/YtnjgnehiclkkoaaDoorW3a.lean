/- Contracts: AddFunction. -/
import Derived.Test.YtnjgnehiclkkoaaDoorW3d
import Derived.Test.YtnjgnehiclkkoaaDoorD3s
import Derived.Test.YtnjgnehiclkkoaaDoorVs
import Derived.Test.YtnjgnehiclkkoaaDoorSl
namespace Go.Proofs.YtnjgnehiclkkoaaDoor
set_option linter.unusedVariables false
set_option linter.unusedSimpArgs false
open Go.RowKit
attribute [local go_sem] Aft.cell

/-- What a function hands back that collects a list beside an int and a bool. -/
def RetSI {α : Type} (w : World) (t : TypeId) (en : α → List Value) (sz : Nat) (l : List α) (n : Int) (b : Bool) (e : Ending) (w' : World) : Prop :=
  ∃ A c, e = .returned (.tuple #[.slice A l.length c, .int .i64 n, .bool b]) ∧ Vec w' w.heap.size t en sz (.slice A l.length c) l ∧ Below w.heap.size w w'
theorem IsTree_n (A : Option Addr) (c n : Nat) (l : List FnD) (w : World) (hn : l.length = n) (hl : Ls w w.heap.size encFn 3 A l) (hm : l.length ≤ 1048576) (hnm : ∀ f ∈ l, f.name.size ≤ 1048576) (hcap : l.length ≤ c) :
    Calls Tryd.prog 32 #[.slice A n c] w fun e w' => e = .returned (.bool (treeB l)) ∧ Below w.heap.size w w' := by
  subst hn
  exact IsTree_any A c l w hl hm hnm hcap
theorem l3Good_n (A : Option Addr) (c n : Nat) (l : List FnD) (w : World) (hn : l.length = n) (hl : Ls w w.heap.size encFn 3 A l) (hm : l.length ≤ 2000000) (hnm : ∀ f ∈ l, f.name.size ≤ 1048576) (hcap : l.length ≤ c) :
    Calls Tryd.prog 30 #[.slice A n c] w fun e w' => e = .returned (.bool (treeB l)) ∧ Below w.heap.size w w' := by
  subst hn
  exact l3Good_big A c l w hl hm hnm hcap
theorem addF_at {l : List FnD} {n : Int} (hn : nidF l = n) (p : Int) (nm : ByteArray) : newF l p nm = ⟨n, p, nm⟩ ∧ addFB l p nm = treeB (l ++ [⟨n, p, nm⟩]) := by
  subst hn
  exact ⟨rfl, rfl⟩
theorem addF_no {l : List FnD} {n : Int} (hn : nidF l = n) {p : Int} {nm : ByteArray} (h : treeB (l ++ [⟨n, p, nm⟩]) = false) : addFB l p nm = false ∧ addFL l p nm = [] ∧ addFI l p nm = 0 := by
  have := (addF_at hn p nm).2.trans h
  exact ⟨this, addFB_no this⟩
theorem addF_yes {l : List FnD} {n : Int} (hn : nidF l = n) {p : Int} {nm : ByteArray} (h : treeB (l ++ [⟨n, p, nm⟩]) = true) : addFB l p nm = true ∧ addFL l p nm = l ++ [⟨n, p, nm⟩] ∧ addFI l p nm = n := by
  have := (addF_at hn p nm).2.trans h
  refine ⟨this, ?_⟩
  rw [← (addF_at hn p nm).1, ← hn]
  exact addFB_yes this
theorem addF_name {l : List FnD} {x : FnD} (hnm : ∀ f ∈ l, f.name.size ≤ 1048576) (hs : x.name.size ≤ 1048576) : ∀ f ∈ l ++ [x], f.name.size ≤ 1048576 := fun f hf => by
  rcases List.mem_append.1 hf with h | h
  · exact hnm f h
  · rw [List.mem_singleton.1 h]; exact hs

set_option maxHeartbeats 4000000 in
theorem c_impl_AddFunction (A : Option Addr) (c : Nat) (l : List FnD) (p : Int) (nm : ByteArray) (w : World) (hl : Ls w w.heap.size encFn 3 A l) (hm : l.length ≤ 1048576) (hnm : ∀ f ∈ l, f.name.size ≤ 1048576) (hcap : l.length ≤ c) (hs : nm.size ≤ 1048576) :
    Calls Tryd.prog 12 #[.slice A l.length c, .int .i64 p, .string nm] w (RetSI w 49 encFn 3 (addFL l p nm) (addFI l p nm) (addFB l p nm)) := by
  have hlm : l.length ≤ 9223372036854775807 := by omega
  have hlen : (l.length : Int) ≤ 1048576 := by omega
  have hG := IsTree_any A c l w hl hm hnm hcap
  cases h1 : treeB l
  · rw [h1] at hG
    have Hv := Lib.hid (addF_no (p := p) (nm := nm) rfl (addF_bad h1 p nm _))
    clear h1 hnm
    go_enter Tryd.func12, Tryd.ntmps12
    go_wp2_with fail
    refine hG.mono ?_
    rintro e w1 ⟨rfl, hb1⟩
    go_wp2_with fail
    go_ret3
    exact ⟨none, 0, by rw [Hv.out.1, Hv.out.2.1, Hv.out.2.2]; rfl, by rw [Hv.out.2.1]; exact Vec.nil, hb1⟩
  · rw [h1] at hG
    have hlen15 := (tree_all h1).1
    by_cases hp : 0 < l.length
    · have hid1 := tree_id h1 (show l.length - 1 < l.length by omega)
      rw [idAt_eq] at hid1
      have Hn := Lib.hid (show nidF l = idAt l (l.length - 1) + 1 by rw [nidF_last hp, idAt_eq])
      have hp1 : 1 ≤ (l.length : Int) := by omega
      have hp2 : (l.length : Int) - 1 < (l.length : Int) := by omega
      have hnx := Lib.hid (addF_name (x := ⟨idAt l (l.length - 1) + 1, p, nm⟩) hnm hs)
      have hF1 : l.length + [(⟨idAt l (l.length - 1) + 1, p, nm⟩ : FnD)].length ≤ maxLen := by unfold maxLen; simp; try omega
      have hF2 : (l.length + [(⟨idAt l (l.length - 1) + 1, p, nm⟩ : FnD)].length) * 32 ≤ 140737488355328 := by simp; try omega
      cases hk : treeB (l ++ [(⟨idAt l (l.length - 1) + 1, p, nm⟩ : FnD)])
      · have Hv := Lib.hid (addF_no Hn.out hk)
        have Hk := Lib.hid hk
        clear hk h1 hnm
        go_enter Tryd.func12, Tryd.ntmps12
        go_wp2_with fail
        refine hG.mono ?_
        rintro e w1 ⟨rfl, hb1⟩
        clear hG
        have hl1 := (hl.below hb1).more hb1.size
        obtain ⟨b, off, rfl, hbb, hc0, hc1, hc2⟩ := hl1.at_Function (show l.length - 1 < l.length by omega)
        rw [idAt_eq] at hc0
        go_wp2_with fail
        refine (Clone_Function _ _ l _ hl1 hm).mono ?_
        rintro e w2 ⟨A2, c2, rfl, hv2, hb2⟩
        have hB2 := blw hb1 hb2
        have hz2 := hB2.size
        have hz3 := hb2.size
        go_wp2_with (at_builtin; refine wpList_app rfl (.tmp 26) (.tmp 31) 24 rfl 49 (.agg #[.int .i64 0, .int .i64 0, .string ⟨#[]⟩]) 3 32 Tryd.underlying24 (by kernel_rfl) rfl (by omega) encFn_len one_fn A2 c2 l rfl (hv2.alloc _) (some ⟨w2.heap.size, 0, none⟩) 1 (w2.heap.size + 1) [(⟨idAt l (l.length - 1) + 1, p, nm⟩ : FnD)] rfl (Ls.one_at rfl rfl) hF1 hF2 (by simp <;> omega) ?_; intro A3 c3 w3 hv3 hw3)
        have hB3 : Below w.heap.size w w3 := (blw_alloc hB2 _).trans (hw3.below (by simp <;> omega) (fun q hq => by have := (hv2.block hq).1; have := hb1.size; omega))
        refine (IsTree_n _ _ _ (l ++ [(⟨idAt l (l.length - 1) + 1, p, nm⟩ : FnD)]) _ (by simp) (hv3.ls encFn_len) (by simp <;> omega) hnx.out hv3.capOk).mono ?_
        rw [Hk.out]
        rintro e w4 ⟨rfl, hb4⟩
        go_wp2_with fail
        go_ret3
        exact ⟨none, 0, by rw [Hv.out.1, Hv.out.2.1, Hv.out.2.2]; rfl, by rw [Hv.out.2.1]; exact Vec.nil, blw hB3 hb4⟩
      · have Hv := Lib.hid (addF_yes Hn.out hk)
        have Hk := Lib.hid hk
        clear hk h1 hnm
        go_enter Tryd.func12, Tryd.ntmps12
        go_wp2_with fail
        refine hG.mono ?_
        rintro e w1 ⟨rfl, hb1⟩
        clear hG
        have hl1 := (hl.below hb1).more hb1.size
        obtain ⟨b, off, rfl, hbb, hc0, hc1, hc2⟩ := hl1.at_Function (show l.length - 1 < l.length by omega)
        rw [idAt_eq] at hc0
        go_wp2_with fail
        refine (Clone_Function _ _ l _ hl1 hm).mono ?_
        rintro e w2 ⟨A2, c2, rfl, hv2, hb2⟩
        have hB2 := blw hb1 hb2
        have hz2 := hB2.size
        have hz3 := hb2.size
        go_wp2_with (at_builtin; refine wpList_app rfl (.tmp 26) (.tmp 31) 24 rfl 49 (.agg #[.int .i64 0, .int .i64 0, .string ⟨#[]⟩]) 3 32 Tryd.underlying24 (by kernel_rfl) rfl (by omega) encFn_len one_fn A2 c2 l rfl (hv2.alloc _) (some ⟨w2.heap.size, 0, none⟩) 1 (w2.heap.size + 1) [(⟨idAt l (l.length - 1) + 1, p, nm⟩ : FnD)] rfl (Ls.one_at rfl rfl) hF1 hF2 (by simp <;> omega) ?_; intro A3 c3 w3 hv3 hw3)
        have hB3 : Below w.heap.size w w3 := (blw_alloc hB2 _).trans (hw3.below (by simp <;> omega) (fun q hq => by have := (hv2.block hq).1; have := hb1.size; omega))
        refine (IsTree_n _ _ _ (l ++ [(⟨idAt l (l.length - 1) + 1, p, nm⟩ : FnD)]) _ (by simp) (hv3.ls encFn_len) (by simp <;> omega) hnx.out hv3.capOk).mono ?_
        rw [Hk.out]
        rintro e w4 ⟨rfl, hb4⟩
        go_wp2_with fail
        go_ret3
        exact ⟨A3, c3, by rw [Hv.out.1, Hv.out.2.1, Hv.out.2.2]; simp, by rw [Hv.out.2.1]; exact (hv3.on hb4).mono hb1.size, blw hB3 hb4⟩
    · have h0 : l = [] := by simpa using hp
      subst h0
      have Hn := Lib.hid nidF_nil
      have hnx := Lib.hid (addF_name (x := ⟨1, p, nm⟩) hnm hs)
      have hF1 : ([] : List FnD).length + [(⟨1, p, nm⟩ : FnD)].length ≤ maxLen := by unfold maxLen; simp; try omega
      have hF2 : (([] : List FnD).length + [(⟨1, p, nm⟩ : FnD)].length) * 32 ≤ 140737488355328 := by simp; try omega
      cases hk : treeB ([] ++ [(⟨1, p, nm⟩ : FnD)])
      · have Hv := Lib.hid (addF_no Hn.out hk)
        have Hk := Lib.hid hk
        clear hk h1 hnm
        go_enter Tryd.func12, Tryd.ntmps12
        go_wp2_with fail
        refine hG.mono ?_
        rintro e w1 ⟨rfl, hb1⟩
        clear hG
        have hl1 := (hl.below hb1).more hb1.size
        go_wp2_with fail
        refine (Clone_Function _ _ [] _ hl1 hm).mono ?_
        rintro e w2 ⟨A2, c2, rfl, hv2, hb2⟩
        have hB2 := blw hb1 hb2
        have hz2 := hB2.size
        have hz3 := hb2.size
        go_wp2_with (at_builtin; refine wpList_app rfl (.tmp 26) (.tmp 31) 24 rfl 49 (.agg #[.int .i64 0, .int .i64 0, .string ⟨#[]⟩]) 3 32 Tryd.underlying24 (by kernel_rfl) rfl (by omega) encFn_len one_fn A2 c2 [] rfl (hv2.alloc _) (some ⟨w2.heap.size, 0, none⟩) 1 (w2.heap.size + 1) [(⟨1, p, nm⟩ : FnD)] rfl (Ls.one_at rfl rfl) hF1 hF2 (by simp <;> omega) ?_; intro A3 c3 w3 hv3 hw3)
        have hB3 : Below w.heap.size w w3 := (blw_alloc hB2 _).trans (hw3.below (by simp <;> omega) (fun q hq => by have := (hv2.block hq).1; have := hb1.size; omega))
        refine (IsTree_n _ _ _ ([] ++ [(⟨1, p, nm⟩ : FnD)]) _ (by simp) (hv3.ls encFn_len) (by simp <;> omega) hnx.out hv3.capOk).mono ?_
        rw [Hk.out]
        rintro e w4 ⟨rfl, hb4⟩
        go_wp2_with fail
        go_ret3
        exact ⟨none, 0, by rw [Hv.out.1, Hv.out.2.1, Hv.out.2.2]; rfl, by rw [Hv.out.2.1]; exact Vec.nil, blw hB3 hb4⟩
      · have Hv := Lib.hid (addF_yes Hn.out hk)
        have Hk := Lib.hid hk
        clear hk h1 hnm
        go_enter Tryd.func12, Tryd.ntmps12
        go_wp2_with fail
        refine hG.mono ?_
        rintro e w1 ⟨rfl, hb1⟩
        clear hG
        have hl1 := (hl.below hb1).more hb1.size
        go_wp2_with fail
        refine (Clone_Function _ _ [] _ hl1 hm).mono ?_
        rintro e w2 ⟨A2, c2, rfl, hv2, hb2⟩
        have hB2 := blw hb1 hb2
        have hz2 := hB2.size
        have hz3 := hb2.size
        go_wp2_with (at_builtin; refine wpList_app rfl (.tmp 26) (.tmp 31) 24 rfl 49 (.agg #[.int .i64 0, .int .i64 0, .string ⟨#[]⟩]) 3 32 Tryd.underlying24 (by kernel_rfl) rfl (by omega) encFn_len one_fn A2 c2 [] rfl (hv2.alloc _) (some ⟨w2.heap.size, 0, none⟩) 1 (w2.heap.size + 1) [(⟨1, p, nm⟩ : FnD)] rfl (Ls.one_at rfl rfl) hF1 hF2 (by simp <;> omega) ?_; intro A3 c3 w3 hv3 hw3)
        have hB3 : Below w.heap.size w w3 := (blw_alloc hB2 _).trans (hw3.below (by simp <;> omega) (fun q hq => by have := (hv2.block hq).1; have := hb1.size; omega))
        refine (IsTree_n _ _ _ ([] ++ [(⟨1, p, nm⟩ : FnD)]) _ (by simp) (hv3.ls encFn_len) (by simp <;> omega) hnx.out hv3.capOk).mono ?_
        rw [Hk.out]
        rintro e w4 ⟨rfl, hb4⟩
        go_wp2_with fail
        go_ret3
        exact ⟨A3, c3, by rw [Hv.out.1, Hv.out.2.1, Hv.out.2.2]; simp, by rw [Hv.out.2.1]; exact (hv3.on hb4).mono hb1.size, blw hB3 hb4⟩

set_option maxHeartbeats 4000000 in
theorem c_spec_AddFunction (A : Option Addr) (c : Nat) (l : List FnD) (p : Int) (nm : ByteArray) (w : World) (hl : Ls w w.heap.size encFn 3 A l) (hm : l.length ≤ 1048576) (hnm : ∀ f ∈ l, f.name.size ≤ 1048576) (hcap : l.length ≤ c) (hs : nm.size ≤ 1048576) :
    Calls Tryd.prog 10 #[.slice A l.length c, .int .i64 p, .string nm] w (RetSI w 49 encFn 3 (addFL l p nm) (addFI l p nm) (addFB l p nm)) := by
  have hlm : l.length ≤ 9223372036854775807 := by omega
  have hlen : (l.length : Int) ≤ 1048576 := by omega
  have hmk : Vec (w.alloc (.cells #[] 49)) w.heap.size 49 encFn 3 (.slice (some ⟨w.heap.size, 0, none⟩) 0 0) ([] : List FnD) := Vec.empty _ _ _ (Nat.le_refl _)
  have hbel := blw_alloc (Below.refl w.heap.size w) (.cells #[] 49)
  have hE1 : ([] : List FnD).length + l.length ≤ maxLen := by unfold maxLen; simp; omega
  have hE2 : (([] : List FnD).length + l.length) * 32 ≤ 140737488355328 := by simp; omega
  by_cases hp : 0 < l.length
  · have hp1 : 1 ≤ (l.length : Int) := by omega
    have hp2 : (l.length : Int) - 1 < (l.length : Int) := by omega
    obtain ⟨b, off, rfl, hbb, hc0, hc1, hc2⟩ := hl.at_Function (show l.length - 1 < l.length by omega)
    rw [idAt_eq] at hc0
    obtain ⟨n, hn⟩ : ∃ n : Int, n = wrap64 (idAt l (l.length - 1) + 1) := ⟨_, rfl⟩
    have hgood : treeB (l ++ [(⟨n, p, nm⟩ : FnD)]) = true → nidF l = n := fun h => by
      have h1 := treeB_app h
      have h2 := tree_id h1 (show l.length - 1 < l.length by omega)
      rw [nidF_last hp, hn, idAt_eq, IntWalk.wrap64_in _ (by rw [idAt_eq] at h2; omega)]
    have hbad : treeB (l ++ [(⟨n, p, nm⟩ : FnD)]) = false → addFB l p nm = false ∧ addFL l p nm = [] ∧ addFI l p nm = 0 := fun h => by
      refine addF_no rfl ?_
      cases h1 : treeB l
      · exact addF_bad h1 p nm _
      · have h2 := tree_id h1 (show l.length - 1 < l.length by omega)
        have h3 : nidF l = n := by
          rw [nidF_last hp, hn, idAt_eq, IntWalk.wrap64_in _ (by rw [idAt_eq] at h2; omega)]
        rw [h3]; exact h
    have Hn := Lib.hid hn
    clear hn
    have hnx := Lib.hid (addF_name (x := ⟨n, p, nm⟩) hnm hs)
    have hF1 : l.length + [(⟨n, p, nm⟩ : FnD)].length ≤ maxLen := by unfold maxLen; simp; try omega
    have hF2 : (l.length + [(⟨n, p, nm⟩ : FnD)].length) * 32 ≤ 140737488355328 := by simp; try omega
    cases hk : treeB (l ++ [(⟨n, p, nm⟩ : FnD)])
    · have Hv := Lib.hid (hbad hk)
      have Hk := Lib.hid hk
      clear hk hnm hgood hbad
      go_enter Tryd.func10, Tryd.ntmps10
      go_wp2_with (first | (at_builtin; refine wpList_app rfl (.tmp 23) (.tmp 24) 24 rfl 49 (.agg #[.int .i64 0, .int .i64 0, .string ⟨#[]⟩]) 3 32 Tryd.underlying24 (by kernel_rfl) rfl (by omega) encFn_len one_fn (some ⟨w.heap.size, 0, none⟩) 0 ([] : List FnD) rfl hmk _ _ _ l rfl (hl.below hbel) hE1 hE2 (by simp) ?_; intro A2 c2 w2 hv2 hw2; replace hv2 : Vec w2 w.heap.size 49 encFn 3 (.slice A2 l.length c2) l := hv2; have hB2 : Below w.heap.size w w2 := hbel.trans (hw2.below (by simp) (fun q hq => (hmk.block hq).1)); have hz2 := hB2.size; try rw [← Hn.out]) | (at_builtin; refine wpList_app rfl (.tmp 25) (.tmp 30) 24 rfl 49 (.agg #[.int .i64 0, .int .i64 0, .string ⟨#[]⟩]) 3 32 Tryd.underlying24 (by kernel_rfl) rfl (by omega) encFn_len one_fn A2 c2 l rfl (hv2.alloc _) (some ⟨w2.heap.size, 0, none⟩) 1 (w2.heap.size + 1) [(⟨n, p, nm⟩ : FnD)] rfl (Ls.one_at rfl (by first | rfl | rw [Hn.out]; rfl)) hF1 hF2 (by simp <;> omega) ?_; intro A3 c3 w3 hv3 hw3))
      have hB3 : Below w.heap.size w w3 := (blw_alloc hB2 _).trans (hw3.below (by simp <;> omega) (fun q hq => by have := (hv2.block hq).1; omega))
      refine (l3Good_n _ _ _ (l ++ [(⟨n, p, nm⟩ : FnD)]) _ (by simp) (hv3.ls encFn_len) (by simp <;> omega) hnx.out hv3.capOk).mono ?_
      rw [Hk.out]
      rintro e w4 ⟨rfl, hb4⟩
      go_wp2_with fail
      go_ret3
      exact ⟨_, 0, by rw [Hv.out.1, Hv.out.2.1, Hv.out.2.2]; rfl, by rw [Hv.out.2.1]; exact Vec.empty _ _ _ (blw hB3 hb4).size, blw_alloc (blw hB3 hb4) _⟩
    · have Hv := Lib.hid (addF_yes (hgood hk) hk)
      have Hk := Lib.hid hk
      clear hk hnm hgood hbad
      go_enter Tryd.func10, Tryd.ntmps10
      go_wp2_with (first | (at_builtin; refine wpList_app rfl (.tmp 23) (.tmp 24) 24 rfl 49 (.agg #[.int .i64 0, .int .i64 0, .string ⟨#[]⟩]) 3 32 Tryd.underlying24 (by kernel_rfl) rfl (by omega) encFn_len one_fn (some ⟨w.heap.size, 0, none⟩) 0 ([] : List FnD) rfl hmk _ _ _ l rfl (hl.below hbel) hE1 hE2 (by simp) ?_; intro A2 c2 w2 hv2 hw2; replace hv2 : Vec w2 w.heap.size 49 encFn 3 (.slice A2 l.length c2) l := hv2; have hB2 : Below w.heap.size w w2 := hbel.trans (hw2.below (by simp) (fun q hq => (hmk.block hq).1)); have hz2 := hB2.size; try rw [← Hn.out]) | (at_builtin; refine wpList_app rfl (.tmp 25) (.tmp 30) 24 rfl 49 (.agg #[.int .i64 0, .int .i64 0, .string ⟨#[]⟩]) 3 32 Tryd.underlying24 (by kernel_rfl) rfl (by omega) encFn_len one_fn A2 c2 l rfl (hv2.alloc _) (some ⟨w2.heap.size, 0, none⟩) 1 (w2.heap.size + 1) [(⟨n, p, nm⟩ : FnD)] rfl (Ls.one_at rfl (by first | rfl | rw [Hn.out]; rfl)) hF1 hF2 (by simp <;> omega) ?_; intro A3 c3 w3 hv3 hw3))
      have hB3 : Below w.heap.size w w3 := (blw_alloc hB2 _).trans (hw3.below (by simp <;> omega) (fun q hq => by have := (hv2.block hq).1; omega))
      refine (l3Good_n _ _ _ (l ++ [(⟨n, p, nm⟩ : FnD)]) _ (by simp) (hv3.ls encFn_len) (by simp <;> omega) hnx.out hv3.capOk).mono ?_
      rw [Hk.out]
      rintro e w4 ⟨rfl, hb4⟩
      go_wp2_with fail
      go_ret3
      exact ⟨A3, c3, by rw [Hv.out.1, Hv.out.2.1, Hv.out.2.2]; simp, by rw [Hv.out.2.1]; exact (hv3.on hb4).mono (Nat.le_refl _), blw hB3 hb4⟩
  · have h0 : l = [] := by simpa using hp
    subst h0
    have hgood : treeB ([] ++ [(⟨1, p, nm⟩ : FnD)]) = true → nidF [] = 1 := fun _ => rfl
    have hbad : treeB ([] ++ [(⟨1, p, nm⟩ : FnD)]) = false → addFB [] p nm = false ∧ addFL [] p nm = [] ∧ addFI [] p nm = 0 := fun h => addF_no rfl h
    have Hn := Lib.hid (rfl : (1 : Int) = 1)
    have hnx := Lib.hid (addF_name (x := ⟨1, p, nm⟩) hnm hs)
    have hF1 : ([] : List FnD).length + [(⟨1, p, nm⟩ : FnD)].length ≤ maxLen := by unfold maxLen; simp; try omega
    have hF2 : (([] : List FnD).length + [(⟨1, p, nm⟩ : FnD)].length) * 32 ≤ 140737488355328 := by simp; try omega
    cases hk : treeB (([] : List FnD) ++ [(⟨1, p, nm⟩ : FnD)])
    · have Hv := Lib.hid (hbad hk)
      have Hk := Lib.hid hk
      clear hk hnm hgood hbad
      go_enter Tryd.func10, Tryd.ntmps10
      go_wp2_with (first | (at_builtin; refine wpList_app rfl (.tmp 23) (.tmp 24) 24 rfl 49 (.agg #[.int .i64 0, .int .i64 0, .string ⟨#[]⟩]) 3 32 Tryd.underlying24 (by kernel_rfl) rfl (by omega) encFn_len one_fn (some ⟨w.heap.size, 0, none⟩) 0 ([] : List FnD) rfl hmk _ _ _ ([] : List FnD) rfl (hl.below hbel) hE1 hE2 (by simp) ?_; intro A2 c2 w2 hv2 hw2; replace hv2 : Vec w2 w.heap.size 49 encFn 3 (.slice A2 ([] : List FnD).length c2) ([] : List FnD) := hv2; have hB2 : Below w.heap.size w w2 := hbel.trans (hw2.below (by simp) (fun q hq => (hmk.block hq).1)); have hz2 := hB2.size) | (at_builtin; refine wpList_app rfl (.tmp 25) (.tmp 30) 24 rfl 49 (.agg #[.int .i64 0, .int .i64 0, .string ⟨#[]⟩]) 3 32 Tryd.underlying24 (by kernel_rfl) rfl (by omega) encFn_len one_fn A2 c2 ([] : List FnD) rfl (hv2.alloc _) (some ⟨w2.heap.size, 0, none⟩) 1 (w2.heap.size + 1) [(⟨1, p, nm⟩ : FnD)] rfl (Ls.one_at rfl (by first | rfl | rw [Hn.out]; rfl)) hF1 hF2 (by simp <;> omega) ?_; intro A3 c3 w3 hv3 hw3))
      have hB3 : Below w.heap.size w w3 := (blw_alloc hB2 _).trans (hw3.below (by simp <;> omega) (fun q hq => by have := (hv2.block hq).1; omega))
      refine (l3Good_n _ _ _ (([] : List FnD) ++ [(⟨1, p, nm⟩ : FnD)]) _ (by simp) (hv3.ls encFn_len) (by simp <;> omega) hnx.out hv3.capOk).mono ?_
      rw [Hk.out]
      rintro e w4 ⟨rfl, hb4⟩
      go_wp2_with fail
      go_ret3
      exact ⟨_, 0, by rw [Hv.out.1, Hv.out.2.1, Hv.out.2.2]; rfl, by rw [Hv.out.2.1]; exact Vec.empty _ _ _ (blw hB3 hb4).size, blw_alloc (blw hB3 hb4) _⟩
    · have Hv := Lib.hid (addF_yes (hgood hk) hk)
      have Hk := Lib.hid hk
      clear hk hnm hgood hbad
      go_enter Tryd.func10, Tryd.ntmps10
      go_wp2_with (first | (at_builtin; refine wpList_app rfl (.tmp 23) (.tmp 24) 24 rfl 49 (.agg #[.int .i64 0, .int .i64 0, .string ⟨#[]⟩]) 3 32 Tryd.underlying24 (by kernel_rfl) rfl (by omega) encFn_len one_fn (some ⟨w.heap.size, 0, none⟩) 0 ([] : List FnD) rfl hmk _ _ _ ([] : List FnD) rfl (hl.below hbel) hE1 hE2 (by simp) ?_; intro A2 c2 w2 hv2 hw2; replace hv2 : Vec w2 w.heap.size 49 encFn 3 (.slice A2 ([] : List FnD).length c2) ([] : List FnD) := hv2; have hB2 : Below w.heap.size w w2 := hbel.trans (hw2.below (by simp) (fun q hq => (hmk.block hq).1)); have hz2 := hB2.size) | (at_builtin; refine wpList_app rfl (.tmp 25) (.tmp 30) 24 rfl 49 (.agg #[.int .i64 0, .int .i64 0, .string ⟨#[]⟩]) 3 32 Tryd.underlying24 (by kernel_rfl) rfl (by omega) encFn_len one_fn A2 c2 ([] : List FnD) rfl (hv2.alloc _) (some ⟨w2.heap.size, 0, none⟩) 1 (w2.heap.size + 1) [(⟨1, p, nm⟩ : FnD)] rfl (Ls.one_at rfl (by first | rfl | rw [Hn.out]; rfl)) hF1 hF2 (by simp <;> omega) ?_; intro A3 c3 w3 hv3 hw3))
      have hB3 : Below w.heap.size w w3 := (blw_alloc hB2 _).trans (hw3.below (by simp <;> omega) (fun q hq => by have := (hv2.block hq).1; omega))
      refine (l3Good_n _ _ _ (([] : List FnD) ++ [(⟨1, p, nm⟩ : FnD)]) _ (by simp) (hv3.ls encFn_len) (by simp <;> omega) hnx.out hv3.capOk).mono ?_
      rw [Hk.out]
      rintro e w4 ⟨rfl, hb4⟩
      go_wp2_with fail
      go_ret3
      exact ⟨A3, c3, by rw [Hv.out.1, Hv.out.2.1, Hv.out.2.2]; simp, by rw [Hv.out.2.1]; exact (hv3.on hb4).mono (Nat.le_refl _), blw hB3 hb4⟩

end Go.Proofs.YtnjgnehiclkkoaaDoor
