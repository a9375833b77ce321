/- Contracts: WithoutLeaf. -/
import Derived.Test.YtnjgnehiclkkoaaDoorW3m
import Derived.Test.YtnjgnehiclkkoaaDoorSe
namespace Go.Proofs.YtnjgnehiclkkoaaDoor
set_option linter.unusedVariables false
set_option linter.unusedSimpArgs false
open Go.RowKit
attribute [local go_sem] Aft.cell

set_option maxHeartbeats 400000 in
theorem WithoutLeaf1_any (f : FnD) (k : Int) (p : Nat) (w : World) (hp : w.cell? ⟨p, 0, none⟩ = some (.int .i64 k)) (hlt : p < w.heap.size) :
    Calls Tryd.prog 39 #[.agg #[.int .i64 f.id, .int .i64 f.parent, .string f.name], .pointer (some ⟨p, 0, none⟩)] w fun e w' => e = .returned (.bool (f.parent == k)) ∧ Below w.heap.size w w' := by
  go_enter Tryd.func39, Tryd.ntmps39
  go_wp2_with fail
  go_ret
  exact ⟨rfl, blw_alloc (Below.refl _ _) _⟩

def parAny (l : List FnD) (k : Int) : Bool := l.any fun f => f.parent == k
def parIdx (l : List FnD) (k : Int) : Int := if parAny l k then (l.findIdx (fun f => f.parent == k) : Int) else -1

set_option maxHeartbeats 1000000 in
theorem IndexFunc_leaf (A : Option Addr) (c : Nat) (l : List FnD) (k : Int) (p : Nat) (w : World) (hl : Ls w w.heap.size encFn 3 A l) (hm : l.length ≤ 9223372036854775807) (hp : w.cell? ⟨p, 0, none⟩ = some (.int .i64 k)) (hlt : p < w.heap.size) :
    Calls Tryd.prog 48 #[.slice A l.length c, .func (.func 39) #[] #[.pointer (some ⟨p, 0, none⟩)]] w fun e w' => e = .returned (.int .i64 (parIdx l k)) ∧ Below w.heap.size w w' := by
  have hlen : (l.length : Int) ≤ 9223372036854775807 := by omega
  go_enter Tryd.func48, Tryd.ntmps48
  go_wp2_with fail
  go_loopw [8] (fun i wr => ∃ j : Nat, j ≤ l.length ∧ i = .int .i64 j ∧ Below w.heap.size w wr ∧ Hid (∀ q (hq : q < l.length), q < j → (l[q].parent == k) = false)) (fun i _ => l.length - (intOf i).toNat)
  case atStart => exact ⟨0, Nat.zero_le _, rfl, Below.refl _ _, fun q _ hq => absurd hq (Nat.not_lt_zero _)⟩
  case round =>
    obtain ⟨j, hj, rfl, hb, hall⟩ := hrel
    have hp' : wr.cell? ⟨p, 0, none⟩ = some (.int .i64 k) := (hb.cell (p := ⟨p, 0, none⟩) hlt).trans hp
    have hlt' : p < wr.heap.size := Nat.lt_of_lt_of_le hlt hb.size
    by_cases hjl : j < l.length
    · obtain ⟨b, off, rfl, hbb, hc0, hc1, hc2⟩ := (hl.below hb).at_Function hjl
      cases hx : l[j].parent == k
      · have Hx := Lib.hid hx
        go_wp2_with (go_at_call 39; refine (WithoutLeaf1_any l[j] k p _ hp' hlt').mono ?_; rw [Hx.out]; rintro e w1 ⟨rfl, hb1⟩)
        go_roundw
        case rel => exact ⟨j + 1, by omega, by go_num, blw hb hb1, fun q hq hqj => by rcases Nat.lt_succ_iff_lt_or_eq.1 hqj with h | rfl; exact hall.out q hq h; exact Hx.out⟩
        case measure => simp [intOf]; omega
      · have Hx := Lib.hid hx
        have Hv : Hid (parIdx l k = (j : Int)) := by
          unfold Hid parIdx
          have h1 : parAny l k = true := any_par_at hjl hx
          rw [if_pos h1, (List.findIdx_eq hjl).2 ⟨hx, fun q hq => hall.out q (by omega) hq⟩]
        clear hx
        go_wp2_with (go_at_call 39; refine (WithoutLeaf1_any l[j] k p _ hp' hlt').mono ?_; rw [Hx.out]; rintro e w1 ⟨rfl, hb1⟩)
        go_ret
        exact ⟨ret_int Hv.out.symm, blw hb hb1⟩
    · have hkk : j = l.length := by omega
      subst hkk
      have Hv : Hid (parIdx l k = -1) := by
        unfold Hid parIdx
        have h1 : parAny l k = false := any_par_none hall.out
        rw [h1]; rfl
      go_wp2_with fail
      go_ret
      exact ⟨ret_int Hv.out.symm, hb⟩

set_option maxHeartbeats 400000 in
theorem ContainsFunc_leaf (A : Option Addr) (c : Nat) (l : List FnD) (k : Int) (p : Nat) (w : World) (b : Bool) (hb : parAny l k = b) (hl : Ls w w.heap.size encFn 3 A l) (hm : l.length ≤ 9223372036854775807) (hp : w.cell? ⟨p, 0, none⟩ = some (.int .i64 k)) (hlt : p < w.heap.size) :
    Calls Tryd.prog 38 #[.slice A l.length c, .func (.func 39) #[] #[.pointer (some ⟨p, 0, none⟩)]] w fun e w' => e = .returned (.bool b) ∧ Below w.heap.size w w' := by
  have hC := IndexFunc_leaf A c l k p w hl hm hp hlt
  subst hb
  cases h1 : parAny l k
  · have hz : parIdx l k = -1 := by unfold parIdx; rw [h1]; rfl
    rw [hz] at hC
    clear hz
    go_enter Tryd.func38, Tryd.ntmps38
    go_wp2_with fail
    refine hC.mono ?_
    rintro e w1 ⟨rfl, hb1⟩
    go_wp2_with fail
    go_ret
    exact ⟨rfl, hb1⟩
  · have hz : 0 ≤ parIdx l k := by unfold parIdx; rw [h1, if_pos rfl]; omega
    generalize parIdx l k = z at *
    go_enter Tryd.func38, Tryd.ntmps38
    go_wp2_with fail
    refine hC.mono ?_
    rintro e w1 ⟨rfl, hb1⟩
    go_wp2_with fail
    go_ret
    exact ⟨by simp [hz], hb1⟩

set_option maxHeartbeats 4000000 in
theorem c_impl_WithoutLeaf (A : Option Addr) (c : Nat) (l : List FnD) (id : Int) (w : World) (hl : Ls w w.heap.size encFn 3 A l) (hm : l.length ≤ 1048576) (hnm : ∀ f ∈ l, f.name.size ≤ 1048576) (hcap : l.length ≤ c) :
    Calls Tryd.prog 19 #[.slice A l.length c, .int .i64 id] w (RetSB w 49 encFn 3 (leafL l id) (leafB l id)) := by
  have hlm : l.length ≤ 9223372036854775807 := by omega
  have hlen : (l.length : Int) ≤ 1048576 := by omega
  have Hnm := Lib.hid hnm
  have hB0 := blw_alloc (Below.refl w.heap.size w) (.cells #[.int .i64 id] 3)
  have hl0 := (hl.alloc (Nat.le_refl _) (.cells #[.int .i64 id] 3)).more hB0.size
  have hp0 : (w.alloc (.cells #[.int .i64 id] 3)).cell? ⟨w.heap.size, 0, none⟩ = some (.int .i64 id) := by simp
  have hlp0 : w.heap.size < (w.alloc (.cells #[.int .i64 id] 3)).heap.size := by simp
  cases h2 : hasF l id
  · have Hv := Lib.hid (leafB_no (.inr (.inl h2)))
    have Hz := Lib.hid (show idxFI l id = -1 by unfold idxFI; rw [h2]; rfl)
    clear h2 hnm
    cases h1' : treeB l
    all_goals
      have h1 := Lib.hid h1'
      clear h1'
      go_enter Tryd.func19, Tryd.ntmps19
      go_wp2_with fail
      generalize (w.alloc (.cells #[.int .i64 id] 3)) = W0 at *
      refine (functionAt_any _ _ l id _ hl0 hlm).mono ?_
      rw [Hz.out]
      rintro e w1 ⟨rfl, hb1⟩
      have hB1 := hB0.trans (hb1.mono hB0.size)
      go_wp2_with fail
      refine (IsTree_b _ _ l w1 _ h1.out ((hl0.below hb1).more hb1.size) hm Hnm.out hcap).mono ?_
      rintro e w2 ⟨rfl, hb2⟩
      have hB2 := blw hB1 hb2
      have hl2 := (hl.below hB2).more hB2.size
      replace hp0 : w2.cell? ⟨w.heap.size, 0, none⟩ = some (.int .i64 id) := ((hb1.trans (hb2.mono hb1.size)).cell (p := ⟨w.heap.size, 0, none⟩) hlp0).trans hp0
      have hlp2 : w.heap.size < w2.heap.size := Nat.lt_of_lt_of_le hlp0 (Nat.le_trans hb1.size hb2.size)
      go_wp2_with fail
      go_ret2
      exact ⟨none, 0, by rw [Hv.out.1, Hv.out.2]; rfl, by rw [Hv.out.2]; exact Vec.nil, hB2⟩
  · have Hz := Lib.hid (show idxFI l id = (idxF l id : Int) by unfold idxFI; rw [h2]; rfl)
    have hlt := hasF_lt h2
    cases h1' : treeB l
    · have h1 := Lib.hid h1'
      have Hv := Lib.hid (leafB_no (id := id) (.inl h1'))
      clear h1' h2 hnm
      go_enter Tryd.func19, Tryd.ntmps19
      go_wp2_with fail
      generalize (w.alloc (.cells #[.int .i64 id] 3)) = W0 at *
      refine (functionAt_any _ _ l id _ hl0 hlm).mono ?_
      rw [Hz.out]
      rintro e w1 ⟨rfl, hb1⟩
      have hB1 := hB0.trans (hb1.mono hB0.size)
      go_wp2_with fail
      refine (IsTree_b _ _ l w1 _ h1.out ((hl0.below hb1).more hb1.size) hm Hnm.out hcap).mono ?_
      rintro e w2 ⟨rfl, hb2⟩
      have hB2 := blw hB1 hb2
      have hl2 := (hl.below hB2).more hB2.size
      replace hp0 : w2.cell? ⟨w.heap.size, 0, none⟩ = some (.int .i64 id) := ((hb1.trans (hb2.mono hb1.size)).cell (p := ⟨w.heap.size, 0, none⟩) hlp0).trans hp0
      have hlp2 : w.heap.size < w2.heap.size := Nat.lt_of_lt_of_le hlp0 (Nat.le_trans hb1.size hb2.size)
      go_wp2_with fail
      go_ret2
      exact ⟨none, 0, by rw [Hv.out.1, Hv.out.2]; rfl, by rw [Hv.out.2]; exact Vec.nil, hB2⟩
    · have h1 := Lib.hid h1'
      cases h3 : parAny l id
      · have Hv := Lib.hid (show leafB l id = true ∧ leafL l id = l.take (idxF l id) ++ l.drop (idxF l id + 1) by rw [← outF_at h1' h2]; exact leafB_yes h1' h2 h3)
        have H3 := Lib.hid h3
        clear h1' h2 h3 hnm
        go_enter Tryd.func19, Tryd.ntmps19
        go_wp2_with fail
        generalize (w.alloc (.cells #[.int .i64 id] 3)) = W0 at *
        refine (functionAt_any _ _ l id _ hl0 hlm).mono ?_
        rw [Hz.out]
        rintro e w1 ⟨rfl, hb1⟩
        have hB1 := hB0.trans (hb1.mono hB0.size)
        go_wp2_with fail
        refine (IsTree_b _ _ l w1 _ h1.out ((hl0.below hb1).more hb1.size) hm Hnm.out hcap).mono ?_
        rintro e w2 ⟨rfl, hb2⟩
        have hB2 := blw hB1 hb2
        have hl2 := (hl.below hB2).more hB2.size
        replace hp0 : w2.cell? ⟨w.heap.size, 0, none⟩ = some (.int .i64 id) := ((hb1.trans (hb2.mono hb1.size)).cell (p := ⟨w.heap.size, 0, none⟩) hlp0).trans hp0
        have hlp2 : w.heap.size < w2.heap.size := Nat.lt_of_lt_of_le hlp0 (Nat.le_trans hb1.size hb2.size)
        go_wp2_with fail
        refine (ContainsFunc_leaf _ _ l id w.heap.size w2 _ H3.out hl2 hlm hp0 hlp2).mono ?_
        rintro e w3 ⟨rfl, hb3⟩
        have hB3 := blw hB2 hb3
        go_wp2_with fail
        refine (Clone_Function _ _ l _ ((hl.below hB3).more hB3.size) hm).mono ?_
        rintro e w4 ⟨A4, c4, rfl, hv4, hb4⟩
        obtain ⟨g, rfl⟩ := hv4.some (by omega)
        have hi1 : (idxF l id : Int) < (l.length : Int) := by omega
        go_wp2_with fail
        refine (Delete_Function g c4 (idxF l id) w3.heap.size l _ hv4 hm hlt).mono ?_
        rintro e w5 ⟨rfl, hv5, hw5⟩
        have Hlz := Lib.hid (show (l.take (idxF l id) ++ l.drop (idxF l id + 1)).length = l.length - 1 by simp; omega)
        have hbg := (hv4.block ⟨0, rfl⟩).1
        go_wp2_with fail
        go_ret2
        exact ⟨some ⟨g, 0, none⟩, c4, by rw [Hv.out.1, Hv.out.2, Hlz.out]; rfl, by rw [Hv.out.2, Hlz.out]; exact hv5.mono hB3.size, (blw hB3 hb4).trans (hw5.below (blw hB3 hb4).size (fun q hq => by have := hB3.size; omega))⟩
      · have Hv := Lib.hid (leafB_no (id := id) (.inr (.inr h3)))
        have H3 := Lib.hid h3
        clear h1' h2 h3 hnm
        go_enter Tryd.func19, Tryd.ntmps19
        go_wp2_with fail
        generalize (w.alloc (.cells #[.int .i64 id] 3)) = W0 at *
        refine (functionAt_any _ _ l id _ hl0 hlm).mono ?_
        rw [Hz.out]
        rintro e w1 ⟨rfl, hb1⟩
        have hB1 := hB0.trans (hb1.mono hB0.size)
        go_wp2_with fail
        refine (IsTree_b _ _ l w1 _ h1.out ((hl0.below hb1).more hb1.size) hm Hnm.out hcap).mono ?_
        rintro e w2 ⟨rfl, hb2⟩
        have hB2 := blw hB1 hb2
        have hl2 := (hl.below hB2).more hB2.size
        replace hp0 : w2.cell? ⟨w.heap.size, 0, none⟩ = some (.int .i64 id) := ((hb1.trans (hb2.mono hb1.size)).cell (p := ⟨w.heap.size, 0, none⟩) hlp0).trans hp0
        have hlp2 : w.heap.size < w2.heap.size := Nat.lt_of_lt_of_le hlp0 (Nat.le_trans hb1.size hb2.size)
        go_wp2_with fail
        refine (ContainsFunc_leaf _ _ l id w.heap.size w2 _ H3.out hl2 hlm hp0 hlp2).mono ?_
        rintro e w3 ⟨rfl, hb3⟩
        have hB3 := blw hB2 hb3
        go_wp2_with fail
        go_ret2
        exact ⟨none, 0, by rw [Hv.out.1, Hv.out.2]; rfl, by rw [Hv.out.2]; exact Vec.nil, hB3⟩

set_option maxHeartbeats 4000000 in
theorem c_spec_WithoutLeaf (A : Option Addr) (c : Nat) (l : List FnD) (id : Int) (w : World) (hl : Ls w w.heap.size encFn 3 A l) (hm : l.length ≤ 1048576) (hnm : ∀ f ∈ l, f.name.size ≤ 1048576) (hcap : l.length ≤ c) :
    Calls Tryd.prog 18 #[.slice A l.length c, .int .i64 id] w (RetSB w 49 encFn 3 (leafL l id) (leafB l id)) := by
  have hlm : l.length ≤ 9223372036854775807 := by omega
  have hlen : (l.length : Int) ≤ 1048576 := by omega
  have Hnm := Lib.hid hnm
  have hmk : Vec (w.alloc (.cells #[] 49)) w.heap.size 49 encFn 3 (.slice (some ⟨w.heap.size, 0, none⟩) 0 0) ([] : List FnD) := Vec.empty _ _ _ (Nat.le_refl _)
  have hbel := blw_alloc (Below.refl w.heap.size w) (.cells #[] 49)
  cases h1' : treeB l
  · have h1 := Lib.hid h1'
    have Hv := Lib.hid (leafB_no (id := id) (.inl h1'))
    clear h1' hnm
    go_enter Tryd.func18, Tryd.ntmps18
    go_wp2_with fail
    refine (l3Good_b _ _ l _ _ h1.out ((hl.below hbel).more hbel.size) hm Hnm.out hcap).mono ?_
    rintro e w1 ⟨rfl, hb1⟩
    have hB1 := blw hbel hb1
    have hv1 := hmk.on hb1
    go_wp2_with fail
    go_ret2
    exact ⟨_, 0, by rw [Hv.out.1, Hv.out.2]; rfl, by rw [Hv.out.2]; exact hv1, hB1⟩
  · have h1 := Lib.hid h1'
    cases h2 : hasF l id
    · have Hv := Lib.hid (leafB_no (.inr (.inl h2)))
      have Hz := Lib.hid (show idxFI l id = -1 by unfold idxFI; rw [h2]; rfl)
      clear h1' h2 hnm
      go_enter Tryd.func18, Tryd.ntmps18
      go_wp2_with fail
      refine (l3Good_b _ _ l _ _ h1.out ((hl.below hbel).more hbel.size) hm Hnm.out hcap).mono ?_
      rintro e w1 ⟨rfl, hb1⟩
      have hB1 := blw hbel hb1
      have hv1 := hmk.on hb1
      go_wp2_with fail
      refine (l3Find_any _ _ l id _ ((hl.below hB1).more hB1.size) hlm).mono ?_
      rw [Hz.out]
      rintro e w2 ⟨rfl, hb2⟩
      have hB2 := blw hB1 hb2
      have hv2 := hv1.on hb2
      go_wp2_with fail
      go_ret2
      exact ⟨_, 0, by rw [Hv.out.1, Hv.out.2]; rfl, by rw [Hv.out.2]; exact hv2, hB2⟩
    · have Hz := Lib.hid (show idxFI l id = (idxF l id : Int) by unfold idxFI; rw [h2]; rfl)
      have h2h := Lib.hid h2
      clear h1' h2 hnm
      go_enter Tryd.func18, Tryd.ntmps18
      go_wp2_with fail
      refine (l3Good_b _ _ l _ _ h1.out ((hl.below hbel).more hbel.size) hm Hnm.out hcap).mono ?_
      rintro e w1 ⟨rfl, hb1⟩
      have hB1 := blw hbel hb1
      have hv1 := hmk.on hb1
      go_wp2_with fail
      refine (l3Find_any _ _ l id _ ((hl.below hB1).more hB1.size) hlm).mono ?_
      rw [Hz.out]
      rintro e w2 ⟨rfl, hb2⟩
      have hB2 := blw hB1 hb2
      have hv2 := hv1.on hb2
      go_wp2_with fail
      clear hmk hbel hb1 hb2 hB1 hv1
      go_loopw [6, 7] (fun v i wr => ∃ (k : Nat) (A' : Option Addr) (c' : Nat), k ≤ l.length ∧ i = .int .i64 k ∧ v = .slice A' (outK l id k).length c' ∧ Vec wr w.heap.size 49 encFn 3 (.slice A' (outK l id k).length c') (outK l id k) ∧ Below w.heap.size w wr ∧ Hid (∀ j (hj : j < l.length), j < k → (l[j].parent == id) = false)) (fun _ i _ => l.length - (intOf i).toNat)
      case atStart => exact ⟨0, _, 0, Nat.zero_le _, rfl, by rw [outK_zero]; rfl, by rw [outK_zero]; exact hv2, hB2, fun j _ hj => absurd hj (Nat.not_lt_zero _)⟩
      case round =>
        clear hv2 hB2
        obtain ⟨k, A', c', hk, rfl, rfl, hv, hb, hall⟩ := hrel
        by_cases hlt : k < l.length
        · obtain ⟨b, off, rfl, hbb, hc0, hc1, hc2⟩ := (hl.below hb).at_Function hlt
          have hsz := hb.size
          have hle := outK_le l id k
          have hF1 : (outK l id k).length + [l[k]].length ≤ maxLen := by unfold maxLen; simp; omega
          have hF2 : ((outK l id k).length + [l[k]].length) * 32 ≤ 140737488355328 := by simp; omega
          cases hp : l[k].parent == id
          · have Hall := Lib.hid (show ∀ j (hj : j < l.length), j < k + 1 → (l[j].parent == id) = false from fun j hj hjk => by rcases Nat.lt_succ_iff_lt_or_eq.1 hjk with h | rfl; exact hall.out j hj h; exact hp)
            cases hi : l[k].id != id
            · have Hk := Lib.hid (outK_no hlt hi)
              go_wp2_with fail
              go_roundw
              case rel => exact ⟨k + 1, A', c', by omega, by go_num, by rw [Hk.out], by rw [Hk.out]; exact hv, hb, Hall.out⟩
              case measure => simp [intOf]; omega
            · have Hk := Lib.hid (outK_yes hlt hi)
              go_wp2_with (at_builtin; refine wpList_app rfl (.tmp 40) (.tmp 45) 24 rfl 49 (.agg #[.int .i64 0, .int .i64 0, .string ⟨#[]⟩]) 3 32 Tryd.underlying24 (by kernel_rfl) rfl (by omega) encFn_len one_fn A' c' (outK l id k) rfl (hv.alloc _) (some ⟨wr.heap.size, 0, none⟩) 1 (wr.heap.size + 1) [l[k]] rfl (Ls.one_at rfl rfl) hF1 hF2 (by simp <;> omega) ?_; intro A3 c3 w3 hv3 hw3)
              go_roundw
              case rel =>
                refine ⟨k + 1, A3, c3, by omega, by go_num, by rw [Hk.out]; simp, by rw [Hk.out]; exact hv3, ?_, Hall.out⟩
                exact (blw_alloc hb _).trans (hw3.below (by simp; omega) (fun q hq => by have := (hv.block hq).1; omega))
              case measure => simp [intOf]; omega
          · have Hv := Lib.hid (leafB_no (l := l) (id := id) (.inr (.inr (any_par_at hlt hp))))
            go_wp2_with fail
            go_ret2
            exact ⟨_, 0, by rw [Hv.out.1, Hv.out.2]; rfl, by rw [Hv.out.2]; exact Vec.empty _ _ _ hb.size, blw_alloc hb _⟩
        · have hkk : k = l.length := by omega
          subst hkk
          rw [outK_end] at hv
          have He := Lib.hid (outK_end l id)
          have Hv := Lib.hid (leafB_yes h1.out h2h.out (any_par_none hall.out))
          go_wp2_with fail
          go_ret2
          exact ⟨A', c', by rw [Hv.out.1, Hv.out.2, ← He.out]; rfl, by rw [Hv.out.2]; exact hv, hb⟩

end Go.Proofs.YtnjgnehiclkkoaaDoor
