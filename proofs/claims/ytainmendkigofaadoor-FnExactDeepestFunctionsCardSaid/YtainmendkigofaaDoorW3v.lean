/- Contracts: DeepestFunctions. -/
import Derived.Test.YtainmendkigofaaDoorW3q
namespace Go.Proofs.YtainmendkigofaaDoor
set_option linter.unusedVariables false
set_option linter.unusedSimpArgs false
open Go.RowKit
attribute [local go_sem] Aft.cell

/-- What a function that collects a list, a number and a bool hands back. -/
def RetSIB {α : Type} (w : World) (t : TypeId) (en : α → List Value) (sz : Nat) (l : List α) (n : Nat) (b : Bool) (e : Ending) (w' : World) : Prop :=
  ∃ A c, e = .returned (.tuple #[.slice A l.length c, .int .i64 (n : Int), .bool b]) ∧ Vec w' w.heap.size t en sz (.slice A l.length c) l ∧ Below w.heap.size w w'
/-- the deepest functions among the first k, and their depth -/
def depS (l : List FnD) (s : List Int × Nat) (f : FnD) : List Int × Nat :=
  if s.2 < (pathF l f.id).length then ([f.id], (pathF l f.id).length) else if (pathF l f.id).length = s.2 then (s.1 ++ [f.id], s.2) else s
def depK (l : List FnD) (k : Nat) : List Int × Nat := (l.take k).foldl (depS l) ([], 0)
theorem depK_step (l : List FnD) (k : Nat) (h : k < l.length) : depK l (k + 1) =
    if (depK l k).2 < (pathF l l[k].id).length then ([l[k].id], (pathF l l[k].id).length) else if (pathF l l[k].id).length = (depK l k).2 then ((depK l k).1 ++ [l[k].id], (depK l k).2) else depK l k := by
  unfold depK
  rw [List.take_succ_eq_append_getElem h, List.foldl_append]
  rfl
theorem depK_le (l : List FnD) : ∀ k, (depK l k).1.length ≤ k
  | 0 => by simp [depK]
  | k + 1 => by
    have h1 := depK_le l k
    by_cases h : k < l.length
    · rw [depK_step l k h]
      split
      · simp
      · split
        · simp; omega
        · omega
    · have : depK l (k + 1) = depK l k := by
        unfold depK
        rw [List.take_of_length_le (by omega), List.take_of_length_le (by omega)]
      rw [this]; omega
def depL (l : List FnD) : List Int := if treeB l then (depK l l.length).1 else []
def depG (l : List FnD) : Nat := if treeB l then (depK l l.length).2 else 0
theorem depL_le (l : List FnD) : (depL l).length ≤ l.length := by
  unfold depL
  split
  · exact depK_le _ _
  · simp

theorem drew_below (B : Nat) (w : World) : Below B w w.drew := (Below.refl B w).drew
/-- The row of one int, grown out of nil. -/
theorem vec_first (w w' : World) (base B : Nat) (t : TypeId) (x : Int) (hB : w'.heap.size = B) (hb : base ≤ B) : Vec (w'.alloc (.cells (#[.int .i64 x] ++ Builtin.zeroCells #[.int .i64 0] ((Question.appendCap 1 0 t).cut (w.tape w.drawn (Question.appendCap 1 0 t)) - 1)) t)).drew base t encInt 1 (.slice (some ⟨B, 0, none⟩) 1 ((Question.appendCap 1 0 t).cut (w.tape w.drawn (Question.appendCap 1 0 t)))) [x] := by
  subst hB
  have h1 : 1 ≤ (Question.appendCap 1 0 t).cut (w.tape w.drawn (Question.appendCap 1 0 t)) := grownCap_ge w 1 0 t
  have h2 : (Question.appendCap 1 0 t).cut (w.tape w.drawn (Question.appendCap 1 0 t)) ≤ maxLen := grownCap_le_maxLen w 1 0 t (by unfold maxLen; omega)
  generalize (Question.appendCap 1 0 t).cut (w.tape w.drawn (Question.appendCap 1 0 t)) = n at *
  exact ⟨by simp [encInt], .inr ⟨w'.heap.size, n, _, rfl, hb, Blk.new w' t _, h1, h2, by simp [size_zeroCells]; omega, by simp [encInt]⟩⟩

set_option maxHeartbeats 2000000 in
theorem c_impl_DeepestFunctions (A : Option Addr) (c : Nat) (l : List FnD) (w : World) (hl : Ls w w.heap.size encFn 3 A l) (hm : l.length ≤ 1048576) (hnm : ∀ f ∈ l, f.name.size ≤ 1048576) (hcap : l.length ≤ c) :
    Calls Tryd.prog 34 #[.slice A l.length c] w (RetSIB w 3 encInt 1 (depL l) (depG l) (treeB l)) := by
  have hlm : l.length ≤ 9223372036854775807 := by omega
  have hlen : (l.length : Int) ≤ 1048576 := by omega
  have hG := IsTree_any A c l w hl hm hnm hcap
  clear hnm
  cases h1 : treeB l
  · rw [h1] at hG
    have Hv := Lib.hid (show treeB l = false ∧ depL l = [] ∧ depG l = 0 by simp [depL, depG, h1])
    clear h1
    go_enter Tryd.func34, Tryd.ntmps34
    go_wp2_with fail
    refine hG.mono ?_
    rintro e w1 ⟨rfl, hb1⟩
    go_wp2_with fail
    go_ret3
    exact ⟨none, 0, by rw [Hv.out.2.1, Hv.out.2.2]; rfl, by rw [Hv.out.2.1]; exact Vec.nil, hb1⟩
  · rw [h1] at hG
    have Hv := Lib.hid (show treeB l = true ∧ depL l = (depK l l.length).1 ∧ depG l = (depK l l.length).2 by simp [depL, depG, h1])
    have Ht := Lib.hid h1
    have hl15 := (tree_all h1).1
    clear h1
    go_enter Tryd.func34, Tryd.ntmps34
    go_wp2_with fail
    refine hG.mono ?_
    rintro e w1 ⟨rfl, hb1⟩
    have hB1 := hb1
    go_wp2_with fail
    clear hG
    go_loopw [5, 6, 15] (fun v g i wr => ∃ (k : Nat) (A' : Option Addr) (c' : Nat), k ≤ l.length ∧ i = .int .i64 k ∧ g = .int .i64 ((depK l k).2 : Int) ∧ v = .slice A' (depK l k).1.length c' ∧ Vec wr w.heap.size 3 encInt 1 (.slice A' (depK l k).1.length c') (depK l k).1 ∧ Below w.heap.size w wr) (fun _ _ i _ => l.length - (intOf i).toNat)
    case atStart => exact ⟨0, none, 0, Nat.zero_le _, rfl, rfl, rfl, Vec.nil, hB1⟩
    case round =>
      obtain ⟨k, A', c', hk, rfl, rfl, rfl, hv, hb⟩ := hrel
      by_cases hlt : k < l.length
      · obtain ⟨b, off, rfl, hbb, hc0, hc1, hc2⟩ := (hl.below hb).at_Function hlt
        have hsz := hb.size
        have hle := depK_le l k
        have hpl := pathF_len Ht.out (hasF_get hlt)
        have Hs := Lib.hid (depK_step l k hlt)
        have hbx0 := FnBox.new wr l[k] 54
        go_wp2_with fail
        refine (pathTo_any _ _ l l[k].id _ (((hl.below (blw_alloc hb _)).more (blw_alloc hb _).size)) hm Ht.out (hasF_get hlt)).mono ?_
        rintro e w3 ⟨A2, c2, rfl, hvp, hb3⟩
        have hBp := blw (blw_alloc hb _) hb3
        have hv2 := (hv.alloc _).on hb3
        obtain ⟨x0, x1, x2, xl⟩ := hbx0.below hb3
        have xl2 : wr.heap.size < w3.heap.size + 1 := by omega
        have hq3 : b < w3.heap.size := by have := hb3.size; simp at this; omega
        have hq4 : b < w3.heap.size + 1 := by omega
        replace hc0 : w3.cell? ⟨b, off + k * 3, none⟩ = some (.int .i64 l[k].id) := (hb3.cell (p := ⟨b, off + k * 3, none⟩) (by simp; omega)).trans ((World.cell?_alloc_lt (a := ⟨b, off + k * 3, none⟩) wr _ (by show b < wr.heap.size; omega)).trans hc0)
        clear hc1 hc2 hvp
        generalize (pathF l l[k].id).length = d at *
        generalize hG : depK l k = st at *
        obtain ⟨ids, g⟩ := st
        simp only [] at hv2 hle Hs hv
        have HG := Lib.hid hG
        clear hG hv
        have hsz5 := hBp.size
        rcases Nat.lt_trichotomy g d with hgd | hgd | hgd
        · have Hk := Lib.hid (show depK l (k + 1) = ([l[k].id], d) by rw [Hs.out]; simp [hgd])
          have hF1 : ([] : List Int).length + [l[k].id].length ≤ maxLen := by unfold maxLen; simp
          have hF2 : (([] : List Int).length + [l[k].id].length) * 8 ≤ 140737488355328 := by simp
          have hg2 : (g : Int) < (d : Int) := by omega
          go_wp2_with (at_builtin; refine wpList_app rfl (.tmp 31) (.tmp 34) 38 rfl 3 (.int .i64 0) 1 8 Tryd.underlying38 (by kernel_rfl) rfl (by omega) encInt_len one_int none 0 ([] : List Int) rfl (Vec.nil) (some ⟨w3.heap.size, 0, none⟩) 1 (w3.heap.size + 1) [l[k].id] rfl (Ls.one_at (by simp) rfl) hF1 hF2 (by simp; omega) ?_; intro A3 c3 w4 hv3 hw3)
          go_roundw
          case rel =>
            refine ⟨k + 1, some ⟨w3.heap.size + 1, 0, none⟩, _, by omega, by go_num, by rw [Hk.out], by rw [Hk.out]; rfl, by rw [Hk.out]; exact vec_first w3 (w3.alloc (.cells #[.int .i64 l[k].id] 3)) w.heap.size (w3.heap.size + 1) 3 l[k].id (by simp) (by omega), ?_⟩
            exact (blw_alloc (blw_alloc hBp _) _).trans (drew_below _ _)
          case measure => simp [intOf]; omega
        · have Hk := Lib.hid (show depK l (k + 1) = (ids ++ [l[k].id], g) by rw [Hs.out]; simp [hgd])
          have hF1 : ids.length + [l[k].id].length ≤ maxLen := by unfold maxLen; simp; omega
          have hF2 : (ids.length + [l[k].id].length) * 8 ≤ 140737488355328 := by simp; omega
          have hg2 : ¬ (g : Int) < (d : Int) := by omega
          have hg3 : ((d : Int) == (g : Int)) = true := by simp [hgd]
          have hg4 : decide (g < d) = false := by simp; omega
          clear hgd
          go_wp2_with (at_builtin; refine wpList_app rfl (.tmp 31) (.tmp 34) 38 rfl 3 (.int .i64 0) 1 8 Tryd.underlying38 (by kernel_rfl) rfl (by omega) encInt_len one_int A' c' ids rfl (hv2.alloc _) (some ⟨w3.heap.size, 0, none⟩) 1 (w3.heap.size + 1) [l[k].id] rfl (Ls.one_at (by simp) rfl) hF1 hF2 (by simp; omega) ?_; intro A3 c3 w4 hv3 hw3)
          go_roundw
          case rel =>
            refine ⟨k + 1, A3, c3, by omega, by go_num, by rw [Hk.out], by rw [Hk.out]; simp, by rw [Hk.out]; exact hv3, ?_⟩
            exact (blw_alloc hBp _).trans (hw3.below (by simp; omega) (fun q hq => by have := (hv2.block hq).1; omega))
          case measure => simp [intOf]; omega
        · have Hk := Lib.hid (show depK l (k + 1) = (ids, g) by rw [Hs.out]; simp [show ¬ g < d by omega, show ¬ d = g by omega])
          have hg2 : ¬ (g : Int) < (d : Int) := by omega
          have hg3 : ((d : Int) == (g : Int)) = false := by simp; omega
          have hg4 : decide (g < d) = false := by simp; omega
          go_wp2_with fail
          go_roundw
          case rel => exact ⟨k + 1, A', c', by omega, by go_num, by rw [Hk.out], by rw [Hk.out], by rw [Hk.out]; exact hv2, hBp⟩
          case measure => simp [intOf]; omega
      · have hkk : k = l.length := by omega
        subst hkk
        go_wp2_with fail
        go_ret3
        exact ⟨A', c', by rw [Hv.out.2.1, Hv.out.2.2]; rfl, by rw [Hv.out.2.1]; exact hv, hb⟩

set_option maxHeartbeats 2000000 in
theorem c_spec_DeepestFunctions (A : Option Addr) (c : Nat) (l : List FnD) (w : World) (hl : Ls w w.heap.size encFn 3 A l) (hm : l.length ≤ 1048576) (hnm : ∀ f ∈ l, f.name.size ≤ 1048576) (hcap : l.length ≤ c) :
    Calls Tryd.prog 33 #[.slice A l.length c] w (RetSIB w 3 encInt 1 (depL l) (depG l) (treeB l)) := by
  have hlm : l.length ≤ 9223372036854775807 := by omega
  have hlen : (l.length : Int) ≤ 1048576 := by omega
  have hmk : Vec (w.alloc (.cells #[] 3)) w.heap.size 3 encInt 1 (.slice (some ⟨w.heap.size, 0, none⟩) 0 0) [] := Vec.empty _ _ _ (Nat.le_refl _)
  have hbel := blw_alloc (Below.refl w.heap.size w) (.cells #[] 3)
  have hG := l3Good_any A c l (w.alloc (.cells #[] 3)) ((hl.below hbel).more hbel.size) hm hnm hcap
  clear hnm
  cases h1 : treeB l
  · rw [h1] at hG
    have Hv := Lib.hid (show treeB l = false ∧ depL l = [] ∧ depG l = 0 by simp [depL, depG, h1])
    clear h1
    go_enter Tryd.func33, Tryd.ntmps33
    go_wp2_with fail
    refine hG.mono ?_
    rintro e w1 ⟨rfl, hb1⟩
    go_wp2_with fail
    go_ret3
    exact ⟨_, 0, by rw [Hv.out.2.1, Hv.out.2.2]; rfl, by rw [Hv.out.2.1]; exact hmk.on hb1, blw hbel hb1⟩
  · rw [h1] at hG
    have Hv := Lib.hid (show treeB l = true ∧ depL l = (depK l l.length).1 ∧ depG l = (depK l l.length).2 by simp [depL, depG, h1])
    have Ht := Lib.hid h1
    have hl15 := (tree_all h1).1
    clear h1
    go_enter Tryd.func33, Tryd.ntmps33
    go_wp2_with fail
    refine hG.mono ?_
    rintro e w1 ⟨rfl, hb1⟩
    have hB1 := (blw hbel hb1)
    go_wp2_with fail
    have hvs := hmk.on hb1
    clear hG hmk hbel hb1
    go_loopw [5, 6, 7] (fun v g i wr => ∃ (k : Nat) (A' : Option Addr) (c' : Nat), k ≤ l.length ∧ i = .int .i64 k ∧ g = .int .i64 ((depK l k).2 : Int) ∧ v = .slice A' (depK l k).1.length c' ∧ Vec wr w.heap.size 3 encInt 1 (.slice A' (depK l k).1.length c') (depK l k).1 ∧ Below w.heap.size w wr) (fun _ _ i _ => l.length - (intOf i).toNat)
    case atStart => exact ⟨0, _, 0, Nat.zero_le _, rfl, rfl, rfl, hvs, hB1⟩
    case round =>
      obtain ⟨k, A', c', hk, rfl, rfl, rfl, hv, hb⟩ := hrel
      by_cases hlt : k < l.length
      · obtain ⟨b, off, rfl, hbb, hc0, hc1, hc2⟩ := (hl.below hb).at_Function hlt
        have hsz := hb.size
        have hle := depK_le l k
        have hpl := pathF_len Ht.out (hasF_get hlt)
        have Hs := Lib.hid (depK_step l k hlt)
        go_wp2_with fail
        refine (l3Path_any _ _ l l[k].id _ ((hl.below hb).more hb.size) hm Ht.out (hasF_get hlt)).mono ?_
        rintro e w3 ⟨A2, c2, rfl, hvp, hb3⟩
        have hBp := blw hb hb3
        have hv2 := hv.on hb3
        have hq3 : b < w3.heap.size := by have := hb3.size; omega
        have hq4 : b < w3.heap.size + 1 := by omega
        replace hc0 : w3.cell? ⟨b, off + k * 3, none⟩ = some (.int .i64 l[k].id) := (hb3.cell (p := ⟨b, off + k * 3, none⟩) (by show b < wr.heap.size; omega)).trans hc0
        clear hc1 hc2 hvp
        generalize (pathF l l[k].id).length = d at *
        generalize hG : depK l k = st at *
        obtain ⟨ids, g⟩ := st
        simp only [] at hv2 hle Hs hv
        have HG := Lib.hid hG
        clear hG hv
        have hsz5 := hBp.size
        rcases Nat.lt_trichotomy g d with hgd | hgd | hgd
        · have Hk := Lib.hid (show depK l (k + 1) = ([l[k].id], d) by rw [Hs.out]; simp [hgd])
          have hF1 : ([] : List Int).length + [l[k].id].length ≤ maxLen := by unfold maxLen; simp
          have hF2 : (([] : List Int).length + [l[k].id].length) * 8 ≤ 140737488355328 := by simp
          have hg2 : (g : Int) < (d : Int) := by omega
          go_wp2_with (at_builtin; refine wpList_app rfl (.tmp 36) (.tmp 42) 38 rfl 3 (.int .i64 0) 1 8 Tryd.underlying38 (by kernel_rfl) rfl (by omega) encInt_len one_int (some ⟨w3.heap.size, 0, none⟩) 0 ([] : List Int) rfl (((Vec.empty w3 w.heap.size 3 hBp.size).alloc _)) (some ⟨w3.heap.size + 1, 0, none⟩) 1 (w3.heap.size + 1 + 1) [l[k].id] rfl (Ls.one_at (by simp) rfl) hF1 hF2 (by simp; omega) ?_; intro A3 c3 w4 hv3 hw3)
          go_roundw
          case rel =>
            refine ⟨k + 1, A3, c3, by omega, by go_num, by rw [Hk.out], by rw [Hk.out]; simp, by rw [Hk.out]; exact hv3, ?_⟩
            exact (blw_alloc (blw_alloc hBp _) _).trans (hw3.below (by simp; omega) (fun q hq => by obtain ⟨o, ho⟩ := hq; simp at ho; omega))
          case measure => simp [intOf]; omega
        · have Hk := Lib.hid (show depK l (k + 1) = (ids ++ [l[k].id], g) by rw [Hs.out]; simp [hgd])
          have hF1 : ids.length + [l[k].id].length ≤ maxLen := by unfold maxLen; simp; omega
          have hF2 : (ids.length + [l[k].id].length) * 8 ≤ 140737488355328 := by simp; omega
          have hg2 : ¬ (g : Int) < (d : Int) := by omega
          have hg3 : ((d : Int) == (g : Int)) = true := by simp [hgd]
          have hg4 : decide (g < d) = false := by simp; omega
          clear hgd
          go_wp2_with (at_builtin; refine wpList_app rfl (.tmp 36) (.tmp 42) 38 rfl 3 (.int .i64 0) 1 8 Tryd.underlying38 (by kernel_rfl) rfl (by omega) encInt_len one_int A' c' ids rfl (hv2.alloc _) (some ⟨w3.heap.size, 0, none⟩) 1 (w3.heap.size + 1) [l[k].id] rfl (Ls.one_at (by simp) rfl) hF1 hF2 (by simp; omega) ?_; intro A3 c3 w4 hv3 hw3)
          go_roundw
          case rel =>
            refine ⟨k + 1, A3, c3, by omega, by go_num, by rw [Hk.out], by rw [Hk.out]; simp, by rw [Hk.out]; exact hv3, ?_⟩
            exact (blw_alloc hBp _).trans (hw3.below (by simp; omega) (fun q hq => by have := (hv2.block hq).1; omega))
          case measure => simp [intOf]; omega
        · have Hk := Lib.hid (show depK l (k + 1) = (ids, g) by rw [Hs.out]; simp [show ¬ g < d by omega, show ¬ d = g by omega])
          have hg2 : ¬ (g : Int) < (d : Int) := by omega
          have hg3 : ((d : Int) == (g : Int)) = false := by simp; omega
          have hg4 : decide (g < d) = false := by simp; omega
          go_wp2_with fail
          go_roundw
          case rel => exact ⟨k + 1, A', c', by omega, by go_num, by rw [Hk.out], by rw [Hk.out], by rw [Hk.out]; exact hv2, hBp⟩
          case measure => simp [intOf]; omega
      · have hkk : k = l.length := by omega
        subst hkk
        go_wp2_with fail
        go_ret3
        exact ⟨A', c', by rw [Hv.out.2.1, Hv.out.2.2]; rfl, by rw [Hv.out.2.1]; exact hv, hb⟩

end Go.Proofs.YtainmendkigofaaDoor
