/- Contracts: UnderOf. -/
import Derived.Test.YtainmendkigofaaDoorW3q
import Derived.Test.YtainmendkigofaaDoorWh
namespace Go.Proofs.YtainmendkigofaaDoor
set_option linter.unusedVariables false
set_option linter.unusedSimpArgs false
open Go.RowKit
attribute [local go_sem] Aft.cell

def undK (l : List FnD) (id : Int) (k : Nat) : List Int := ((l.take k).filter fun f => hasB (pathF l f.id) id).map (·.id)
theorem undK_zero (l : List FnD) (id : Int) : undK l id 0 = [] := by simp [undK]
theorem undK_le (l : List FnD) (id : Int) (k : Nat) : (undK l id k).length ≤ l.length := by
  unfold undK
  rw [List.length_map]
  refine Nat.le_trans (List.length_filter_le _ _) ?_
  simp; omega
theorem undK_yes {l : List FnD} {id : Int} {k : Nat} (h : k < l.length) (hs : hasB (pathF l l[k].id) id = true) : undK l id (k + 1) = undK l id k ++ [l[k].id] := by
  unfold undK
  rw [List.take_succ_eq_append_getElem h, List.filter_append, List.map_append]
  congr 1
  simp [List.filter_cons, hs]
theorem undK_no {l : List FnD} {id : Int} {k : Nat} (h : k < l.length) (hs : hasB (pathF l l[k].id) id = false) : undK l id (k + 1) = undK l id k := by
  unfold undK
  rw [List.take_succ_eq_append_getElem h, List.filter_append, List.map_append]
  simp [List.filter_cons, hs]
def undL (l : List FnD) (id : Int) : List Int := if pthB l id then undK l id l.length else []
theorem undL_le (l : List FnD) (id : Int) : (undL l id).length ≤ l.length := by
  unfold undL
  split
  · exact undK_le _ _ _
  · simp

set_option maxHeartbeats 2000000 in
theorem c_impl_UnderOf (A : Option Addr) (c : Nat) (l : List FnD) (id : Int) (w : World) (hl : Ls w w.heap.size encFn 3 A l) (hm : l.length ≤ 1048576) (hnm : ∀ f ∈ l, f.name.size ≤ 1048576) (hcap : l.length ≤ c) :
    Calls Tryd.prog 36 #[.slice A l.length c, .int .i64 id] w (RetSB w 3 encInt 1 (undL l id) (pthB l id)) := by
  have hlm : l.length ≤ 9223372036854775807 := by omega
  have hlen : (l.length : Int) ≤ 1048576 := by omega
  have hG := IsTree_any A c l w hl hm hnm hcap
  clear hnm
  cases h1 : treeB l
  · rw [h1] at hG
    have Hv := Lib.hid (show pthB l id = false ∧ undL l id = [] by simp [undL, pthB, h1])
    go_enter Tryd.func36, Tryd.ntmps36
    go_wp2_with fail
    refine hG.mono ?_
    rintro e w1 ⟨rfl, hb1⟩
    go_wp2_with fail
    go_ret2
    exact ⟨none, 0, by rw [Hv.out.1, Hv.out.2]; rfl, by rw [Hv.out.2]; exact Vec.nil, hb1⟩
  · rw [h1] at hG
    cases h2 : hasF l id
    · have Hv := Lib.hid (show pthB l id = false ∧ undL l id = [] by simp [undL, pthB, h2])
      have Hz := Lib.hid (show idxFI l id = -1 by unfold idxFI; rw [h2]; rfl)
      go_enter Tryd.func36, Tryd.ntmps36
      go_wp2_with fail
      refine hG.mono ?_
      rintro e w1 ⟨rfl, hb1⟩
      have hB1 := hb1
      go_wp2_with fail
      refine (functionAt_any _ _ l id _ ((hl.below hB1).more hB1.size) hlm).mono ?_
      rw [Hz.out]
      rintro e w2 ⟨rfl, hb2⟩
      go_wp2_with fail
      go_ret2
      exact ⟨none, 0, by rw [Hv.out.1, Hv.out.2]; rfl, by rw [Hv.out.2]; exact Vec.nil, blw hB1 hb2⟩
    · have Hv := Lib.hid (show pthB l id = true ∧ undL l id = undK l id l.length by simp [undL, pthB, h1, h2])
      have Hz := Lib.hid (show idxFI l id = (idxF l id : Int) by unfold idxFI; rw [h2]; rfl)
      have Ht := Lib.hid h1
      have hl15 := (tree_all h1).1
      go_enter Tryd.func36, Tryd.ntmps36
      go_wp2_with fail
      refine hG.mono ?_
      rintro e w1 ⟨rfl, hb1⟩
      have hB1 := hb1
      go_wp2_with fail
      refine (functionAt_any _ _ l id _ ((hl.below hB1).more hB1.size) hlm).mono ?_
      rw [Hz.out]
      rintro e w2 ⟨rfl, hb2⟩
      have hB2 := blw hB1 hb2
      go_wp2_with fail
      clear hG h1 h2
      go_loopw [6, 20] (fun v i wr => ∃ (k : Nat) (A' : Option Addr) (c' : Nat), k ≤ l.length ∧ i = .int .i64 k ∧ v = .slice A' (undK l id k).length c' ∧ Vec wr w.heap.size 3 encInt 1 (.slice A' (undK l id k).length c') (undK l id k) ∧ Below w.heap.size w wr) (fun _ i _ => l.length - (intOf i).toNat)
      case atStart => exact ⟨0, none, 0, Nat.zero_le _, rfl, by rw [undK_zero]; rfl, by rw [undK_zero]; exact Vec.nil, hB2⟩
      case round =>
        obtain ⟨k, A', c', hk, rfl, rfl, hv, hb⟩ := hrel
        by_cases hlt : k < l.length
        · obtain ⟨b, off, rfl, hbb, hc0, hc1, hc2⟩ := (hl.below hb).at_Function hlt
          have hsz := hb.size
          have hle := undK_le l id k
          have hpl := pathF_len Ht.out (hasF_get hlt)
          have hF1 : (undK l id k).length + [l[k].id].length ≤ maxLen := by unfold maxLen; simp; omega
          have hF2 : ((undK l id k).length + [l[k].id].length) * 8 ≤ 140737488355328 := by simp; omega
          have hbx0 := FnBox.new wr l[k] 54
          go_wp2_with fail
          refine (pathTo_any _ _ l l[k].id _ (((hl.below (blw_alloc hb _)).more (blw_alloc hb _).size)) hm Ht.out (hasF_get hlt)).mono ?_
          rintro e w3 ⟨A2, c2, rfl, hvp, hb3⟩
          have hBp := blw (blw_alloc hb _) hb3
          have hv2 := (hv.alloc _).on hb3
          obtain ⟨x0, x1, x2, xl⟩ := hbx0.below hb3
          have hq3 : b < w3.heap.size := by have := hb3.size; simp at this; omega
          replace hc0 : w3.cell? ⟨b, off + k * 3, none⟩ = some (.int .i64 l[k].id) := (hb3.cell (p := ⟨b, off + k * 3, none⟩) (by simp; omega)).trans ((World.cell?_alloc_lt (a := ⟨b, off + k * 3, none⟩) wr _ (by show b < wr.heap.size; omega)).trans hc0)
          go_wp2_with fail
          refine (Contains_any _ _ (pathF l l[k].id) _ _ (hvp.ls encInt_len) (by omega)).mono ?_
          cases h1 : hasB (pathF l l[k].id) id
          · have Hk := Lib.hid (undK_no hlt h1)
            rintro e w5 ⟨rfl, rfl⟩
            go_wp2_with fail
            go_roundw
            case rel => exact ⟨k + 1, A', c', by omega, by go_num, by rw [Hk.out], by rw [Hk.out]; exact hv2, hBp⟩
            case measure => simp [intOf]; omega
          · have Hk := Lib.hid (undK_yes hlt h1)
            rintro e w5 ⟨rfl, rfl⟩
            have hsz5 := hBp.size
            go_wp2_with (at_builtin; refine wpList_app rfl (.tmp 30) (.tmp 33) 38 rfl 3 (.int .i64 0) 1 8 Tryd.underlying38 (by kernel_rfl) rfl (by omega) encInt_len one_int A' c' _ rfl (hv2.alloc _) (some ⟨w3.heap.size, 0, none⟩) 1 (w3.heap.size + 1) [l[k].id] rfl (Ls.one_at rfl rfl) hF1 hF2 (by simp; omega) ?_; intro A3 c3 w4 hv3 hw3)
            go_roundw
            case rel =>
              refine ⟨k + 1, A3, c3, by omega, by go_num, by rw [Hk.out]; simp, by rw [Hk.out]; exact hv3, ?_⟩
              exact (blw_alloc hBp _).trans (hw3.below (by simp; omega) (fun q hq => by have := (hv2.block hq).1; omega))
            case measure => simp [intOf]; omega
        · have hkk : k = l.length := by omega
          subst hkk
          go_wp2_with fail
          go_ret2
          exact ⟨A', c', by rw [Hv.out.1, Hv.out.2]; rfl, by rw [Hv.out.2]; exact hv, hb⟩

set_option maxHeartbeats 2000000 in
theorem c_spec_UnderOf (A : Option Addr) (c : Nat) (l : List FnD) (id : Int) (w : World) (hl : Ls w w.heap.size encFn 3 A l) (hm : l.length ≤ 1048576) (hnm : ∀ f ∈ l, f.name.size ≤ 1048576) (hcap : l.length ≤ c) :
    Calls Tryd.prog 35 #[.slice A l.length c, .int .i64 id] w (RetSB w 3 encInt 1 (undL l id) (pthB l id)) := by
  have hlm : l.length ≤ 9223372036854775807 := by omega
  have hlen : (l.length : Int) ≤ 1048576 := by omega
  have hmk : Vec (w.alloc (.cells #[] 3)) w.heap.size 3 encInt 1 (.slice (some ⟨w.heap.size, 0, none⟩) 0 0) [] := Vec.empty _ _ _ (Nat.le_refl _)
  have hbel := blw_alloc (Below.refl w.heap.size w) (.cells #[] 3)
  have hG := l3Good_any A c l (w.alloc (.cells #[] 3)) ((hl.below hbel).more hbel.size) hm hnm hcap
  clear hnm
  cases h1 : treeB l
  · rw [h1] at hG
    have Hv := Lib.hid (show pthB l id = false ∧ undL l id = [] by simp [undL, pthB, h1])
    go_enter Tryd.func35, Tryd.ntmps35
    go_wp2_with fail
    refine hG.mono ?_
    rintro e w1 ⟨rfl, hb1⟩
    go_wp2_with fail
    go_ret2
    exact ⟨_, 0, by rw [Hv.out.1, Hv.out.2]; rfl, by rw [Hv.out.2]; exact hmk.on hb1, blw hbel hb1⟩
  · rw [h1] at hG
    cases h2 : hasF l id
    · have Hv := Lib.hid (show pthB l id = false ∧ undL l id = [] by simp [undL, pthB, h2])
      have Hz := Lib.hid (show idxFI l id = -1 by unfold idxFI; rw [h2]; rfl)
      go_enter Tryd.func35, Tryd.ntmps35
      go_wp2_with fail
      refine hG.mono ?_
      rintro e w1 ⟨rfl, hb1⟩
      have hB1 := (blw hbel hb1)
      go_wp2_with fail
      refine (l3Find_any _ _ l id _ ((hl.below hB1).more hB1.size) hlm).mono ?_
      rw [Hz.out]
      rintro e w2 ⟨rfl, hb2⟩
      go_wp2_with fail
      go_ret2
      exact ⟨_, 0, by rw [Hv.out.1, Hv.out.2]; rfl, by rw [Hv.out.2]; exact (hmk.on hb1).on hb2, blw hB1 hb2⟩
    · have Hv := Lib.hid (show pthB l id = true ∧ undL l id = undK l id l.length by simp [undL, pthB, h1, h2])
      have Hz := Lib.hid (show idxFI l id = (idxF l id : Int) by unfold idxFI; rw [h2]; rfl)
      have Ht := Lib.hid h1
      have hl15 := (tree_all h1).1
      go_enter Tryd.func35, Tryd.ntmps35
      go_wp2_with fail
      refine hG.mono ?_
      rintro e w1 ⟨rfl, hb1⟩
      have hB1 := (blw hbel hb1)
      go_wp2_with fail
      refine (l3Find_any _ _ l id _ ((hl.below hB1).more hB1.size) hlm).mono ?_
      rw [Hz.out]
      rintro e w2 ⟨rfl, hb2⟩
      have hB2 := blw hB1 hb2
      go_wp2_with fail
      have hvs := (hmk.on hb1).on hb2
      clear hG h1 h2 hmk hbel hb1 hb2 hB1
      go_loopw [6, 7] (fun v i wr => ∃ (k : Nat) (A' : Option Addr) (c' : Nat), k ≤ l.length ∧ i = .int .i64 k ∧ v = .slice A' (undK l id k).length c' ∧ Vec wr w.heap.size 3 encInt 1 (.slice A' (undK l id k).length c') (undK l id k) ∧ Below w.heap.size w wr) (fun _ i _ => l.length - (intOf i).toNat)
      case atStart => exact ⟨0, _, 0, Nat.zero_le _, rfl, by rw [undK_zero]; rfl, by rw [undK_zero]; exact hvs, hB2⟩
      case round =>
        obtain ⟨k, A', c', hk, rfl, rfl, hv, hb⟩ := hrel
        by_cases hlt : k < l.length
        · obtain ⟨b, off, rfl, hbb, hc0, hc1, hc2⟩ := (hl.below hb).at_Function hlt
          have hsz := hb.size
          have hle := undK_le l id k
          have hpl := pathF_len Ht.out (hasF_get hlt)
          have hF1 : (undK l id k).length + [l[k].id].length ≤ maxLen := by unfold maxLen; simp; omega
          have hF2 : ((undK l id k).length + [l[k].id].length) * 8 ≤ 140737488355328 := by simp; omega
          go_wp2_with fail
          refine (l3Path_any _ _ l l[k].id _ ((hl.below hb).more hb.size) hm Ht.out (hasF_get hlt)).mono ?_
          rintro e w3 ⟨A2, c2, rfl, hvp, hb3⟩
          have hBp := blw hb hb3
          have hv2 := hv.on hb3
          have hq3 : b < w3.heap.size := by have := hb3.size; omega
          replace hc0 : w3.cell? ⟨b, off + k * 3, none⟩ = some (.int .i64 l[k].id) := (hb3.cell (p := ⟨b, off + k * 3, none⟩) (by show b < wr.heap.size; omega)).trans hc0
          go_wp2_with fail
          refine (l1Has_any _ _ (pathF l l[k].id) _ _ (hvp.ls encInt_len) (by omega)).mono ?_
          cases h1 : hasB (pathF l l[k].id) id
          · have Hk := Lib.hid (undK_no hlt h1)
            rintro e w5 ⟨rfl, rfl⟩
            go_wp2_with fail
            go_roundw
            case rel => exact ⟨k + 1, A', c', by omega, by go_num, by rw [Hk.out], by rw [Hk.out]; exact hv2, hBp⟩
            case measure => simp [intOf]; omega
          · have Hk := Lib.hid (undK_yes hlt h1)
            rintro e w5 ⟨rfl, rfl⟩
            have hsz5 := hBp.size
            go_wp2_with (at_builtin; refine wpList_app rfl (.tmp 34) (.tmp 40) 38 rfl 3 (.int .i64 0) 1 8 Tryd.underlying38 (by kernel_rfl) rfl (by omega) encInt_len one_int A' c' _ rfl (hv2.alloc _) (some ⟨w3.heap.size, 0, none⟩) 1 (w3.heap.size + 1) [l[k].id] rfl (Ls.one_at rfl rfl) hF1 hF2 (by simp; omega) ?_; intro A3 c3 w4 hv3 hw3)
            go_roundw
            case rel =>
              refine ⟨k + 1, A3, c3, by omega, by go_num, by rw [Hk.out]; simp, by rw [Hk.out]; exact hv3, ?_⟩
              exact (blw_alloc hBp _).trans (hw3.below (by simp; omega) (fun q hq => by have := (hv2.block hq).1; omega))
            case measure => simp [intOf]; omega
        · have hkk : k = l.length := by omega
          subst hkk
          go_wp2_with fail
          go_ret2
          exact ⟨A', c', by rw [Hv.out.1, Hv.out.2]; rfl, by rw [Hv.out.2]; exact hv, hb⟩

end Go.Proofs.YtainmendkigofaaDoor
