/- Contracts: PathTo. -/
import Derived.Test.YtainmendkigofaaDoorW3p
namespace Go.Proofs.YtainmendkigofaaDoor
set_option linter.unusedVariables false
set_option linter.unusedSimpArgs false
open Go.RowKit
attribute [local go_sem] Aft.cell

def pthB (l : List FnD) (id : Int) : Bool := treeB l && hasF l id
def pthL (l : List FnD) (id : Int) : List Int := if pthB l id then pathF l id else []
theorem pthL_le (l : List FnD) (id : Int) : (pthL l id).length ≤ 99 := by
  unfold pthL
  split
  · next h =>
    simp only [pthB, Bool.and_eq_true] at h
    exact pathF_len h.1 h.2
  · simp

set_option maxHeartbeats 1000000 in
theorem c_impl_PathTo (A : Option Addr) (c : Nat) (l : List FnD) (id : Int) (w : World) (hl : Ls w w.heap.size encFn 3 A l) (hm : l.length ≤ 1048576) (hnm : ∀ f ∈ l, f.name.size ≤ 1048576) (hcap : l.length ≤ c) :
    Calls Tryd.prog 27 #[.slice A l.length c, .int .i64 id] w (RetSB w 3 encInt 1 (pthL l id) (pthB l id)) := by
  have hlm : l.length ≤ 9223372036854775807 := by omega
  have hG := IsTree_any A c l w hl hm hnm hcap
  clear hnm
  cases h1 : treeB l
  · rw [h1] at hG
    have Hv := Lib.hid (show pthB l id = false ∧ pthL l id = [] by simp [pthL, pthB, h1])
    go_enter Tryd.func27, Tryd.ntmps27
    go_wp2_with fail
    refine hG.mono ?_
    rintro e w1 ⟨rfl, hb1⟩
    go_wp2_with fail
    go_ret2
    exact ⟨none, 0, by rw [Hv.out.1, Hv.out.2]; rfl, by rw [Hv.out.2]; exact Vec.nil, hb1⟩
  · rw [h1] at hG
    cases h2 : hasF l id
    · have Hv := Lib.hid (show pthB l id = false ∧ pthL l id = [] by simp [pthL, pthB, h2])
      have Hz := Lib.hid (show idxFI l id = -1 by unfold idxFI; rw [h2]; rfl)
      go_enter Tryd.func27, Tryd.ntmps27
      go_wp2_with fail
      refine hG.mono ?_
      rintro e w1 ⟨rfl, hb1⟩
      go_wp2_with fail
      refine (functionAt_any _ _ l id _ ((hl.below hb1).more hb1.size) hlm).mono ?_
      rw [Hz.out]
      rintro e w2 ⟨rfl, hb2⟩
      go_wp2_with fail
      go_ret2
      exact ⟨none, 0, by rw [Hv.out.1, Hv.out.2]; rfl, by rw [Hv.out.2]; exact Vec.nil, blw hb1 hb2⟩
    · have Hv := Lib.hid (show pthB l id = true ∧ pthL l id = pathF l id by simp [pthL, pthB, h1, h2])
      have Hz := Lib.hid (show idxFI l id = (idxF l id : Int) by unfold idxFI; rw [h2]; rfl)
      go_enter Tryd.func27, Tryd.ntmps27
      go_wp2_with fail
      refine hG.mono ?_
      rintro e w1 ⟨rfl, hb1⟩
      go_wp2_with fail
      refine (functionAt_any _ _ l id _ ((hl.below hb1).more hb1.size) hlm).mono ?_
      rw [Hz.out]
      rintro e w2 ⟨rfl, hb2⟩
      have hB2 := blw hb1 hb2
      go_wp2_with fail
      refine (pathTo_any _ _ l id _ ((hl.below hB2).more hB2.size) hm h1 h2).mono ?_
      rintro e w3 ⟨A3, c3, rfl, hv3, hb3⟩
      go_wp2_with fail
      go_ret2
      exact ⟨A3, c3, by rw [Hv.out.1, Hv.out.2]; rfl, by rw [Hv.out.2]; exact hv3.mono hB2.size, blw hB2 hb3⟩

set_option maxHeartbeats 1000000 in
theorem c_spec_PathTo (A : Option Addr) (c : Nat) (l : List FnD) (id : Int) (w : World) (hl : Ls w w.heap.size encFn 3 A l) (hm : l.length ≤ 1048576) (hnm : ∀ f ∈ l, f.name.size ≤ 1048576) (hcap : l.length ≤ c) :
    Calls Tryd.prog 26 #[.slice A l.length c, .int .i64 id] w (RetSB w 3 encInt 1 (pthL l id) (pthB l id)) := by
  have hlm : l.length ≤ 9223372036854775807 := by omega
  have hG := l3Good_any A c l w hl hm hnm hcap
  clear hnm
  cases h1 : treeB l
  · rw [h1] at hG
    have Hv := Lib.hid (show pthB l id = false ∧ pthL l id = [] by simp [pthL, pthB, h1])
    go_enter Tryd.func26, Tryd.ntmps26
    go_wp2_with fail
    refine hG.mono ?_
    rintro e w1 ⟨rfl, hb1⟩
    go_wp2_with fail
    go_ret2
    exact ⟨_, 0, by rw [Hv.out.1, Hv.out.2]; rfl, by rw [Hv.out.2]; exact Vec.empty _ _ _ hb1.size, blw_alloc hb1 _⟩
  · rw [h1] at hG
    cases h2 : hasF l id
    · have Hv := Lib.hid (show pthB l id = false ∧ pthL l id = [] by simp [pthL, pthB, h2])
      have Hz := Lib.hid (show idxFI l id = -1 by unfold idxFI; rw [h2]; rfl)
      go_enter Tryd.func26, Tryd.ntmps26
      go_wp2_with fail
      refine hG.mono ?_
      rintro e w1 ⟨rfl, hb1⟩
      go_wp2_with fail
      refine (l3Find_any _ _ l id _ ((hl.below hb1).more hb1.size) hlm).mono ?_
      rw [Hz.out]
      rintro e w2 ⟨rfl, hb2⟩
      go_wp2_with fail
      go_ret2
      exact ⟨_, 0, by rw [Hv.out.1, Hv.out.2]; rfl, by rw [Hv.out.2]; exact Vec.empty _ _ _ (blw hb1 hb2).size, blw_alloc (blw hb1 hb2) _⟩
    · have Hv := Lib.hid (show pthB l id = true ∧ pthL l id = pathF l id by simp [pthL, pthB, h1, h2])
      have Hz := Lib.hid (show idxFI l id = (idxF l id : Int) by unfold idxFI; rw [h2]; rfl)
      go_enter Tryd.func26, Tryd.ntmps26
      go_wp2_with fail
      refine hG.mono ?_
      rintro e w1 ⟨rfl, hb1⟩
      go_wp2_with fail
      refine (l3Find_any _ _ l id _ ((hl.below hb1).more hb1.size) hlm).mono ?_
      rw [Hz.out]
      rintro e w2 ⟨rfl, hb2⟩
      have hB2 := blw hb1 hb2
      go_wp2_with fail
      refine (l3Path_any _ _ l id _ ((hl.below hB2).more hB2.size) hm h1 h2).mono ?_
      rintro e w3 ⟨A3, c3, rfl, hv3, hb3⟩
      go_wp2_with fail
      go_ret2
      exact ⟨A3, c3, by rw [Hv.out.1, Hv.out.2]; rfl, by rw [Hv.out.2]; exact hv3.mono hB2.size, blw hB2 hb3⟩

end Go.Proofs.YtainmendkigofaaDoor
