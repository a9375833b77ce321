/- Contracts: SharedPath. -/
import Derived.Test.YtnjgnehiclkkoaaDoorW3q
import Derived.Test.YtnjgnehiclkkoaaDoorD3s
import Derived.Test.YtnjgnehiclkkoaaDoorHInt
import Derived.Test.YtnjgnehiclkkoaaDoorVs
namespace Go.Proofs.YtnjgnehiclkkoaaDoor
set_option linter.unusedVariables false
set_option linter.unusedSimpArgs false
open Go.RowKit
attribute [local go_sem] Aft.cell

theorem shaB_no {l : List FnD} {a b : Int} (h : treeB l = false ∨ hasF l a = false ∨ hasF l b = false) : shaB l a b = false ∧ shaL l a b = [] := by
  have : shaB l a b = false := by
    unfold shaB
    rcases h with h | h | h <;> simp [h]
  exact ⟨this, by simp [shaL, this]⟩
theorem shaB_yes {l : List FnD} {a b : Int} (h1 : treeB l = true) (h2 : hasF l a = true) (h3 : hasF l b = true) {k : Nat} (hk : cpn (pathF l a) (pathF l b) = k) : shaB l a b = true ∧ shaL l a b = (pathF l a).take k := by
  have : shaB l a b = true := by simp [shaB, h1, h2, h3]
  exact ⟨this, by simp [shaL, this, hk]⟩
theorem cp_step {x y : List Int} {n : Nat} (h : ∀ j, j < n → x[j]? = y[j]?) (hx : n < x.length) (hy : n < y.length) (he : (x[n] == y[n]) = true) : ∀ j, j < n + 1 → x[j]? = y[j]? := by
  intro j hj
  rcases Nat.lt_succ_iff_lt_or_eq.1 hj with h1 | rfl
  · exact h j h1
  · rw [List.getElem?_eq_getElem hx, List.getElem?_eq_getElem hy, beq_iff_eq.1 he]
theorem cp_end {x y : List Int} {n : Nat} (h : ∀ j, j < n → x[j]? = y[j]?) (hx : n < x.length) (hy : n < y.length) (he : (x[n] == y[n]) = false) : cpn x y = n :=
  cpn_at x y n (by omega) (by omega) h (.inr (.inr (by rw [List.getElem?_eq_getElem hx, List.getElem?_eq_getElem hy]; simpa using he)))
def tkI (x : List Int) (n : Nat) : List Int := x.take n
theorem tkI_len {x : List Int} {n : Nat} (h : n ≤ x.length) : (tkI x n).length = n := by unfold tkI; rw [List.length_take]; omega
theorem tkI_succ {x : List Int} {n : Nat} (h : n < x.length) : tkI x (n + 1) = tkI x n ++ [x[n]] := List.take_succ_eq_append_getElem h
theorem tkI_zero (x : List Int) : tkI x 0 = [] := by simp [tkI]
theorem pathF_pos {l : List FnD} (ht : treeB l = true) {id : Int} (h : hasF l id = true) : 0 < (pathF l id).length := by
  have h1 := tree_par ht h
  unfold pathF
  rw [upW_step (by omega) (by omega)]
  simp

set_option maxHeartbeats 4000000 in
theorem c_impl_SharedPath (A : Option Addr) (c : Nat) (l : List FnD) (ia ib : Int) (w : World) (hl : Ls w w.heap.size encFn 3 A l) (hm : l.length ≤ 1048576) (hnm : ∀ f ∈ l, f.name.size ≤ 1048576) (hcap : l.length ≤ c) :
    Calls Tryd.prog 21 #[.slice A l.length c, .int .i64 ia, .int .i64 ib] w (RetSB w 3 encInt 1 (shaL l ia ib) (shaB l ia ib)) := by
  have hlm : l.length ≤ 9223372036854775807 := by omega
  have hlen : (l.length : Int) ≤ 1048576 := by omega
  have hG := IsTree_any A c l w hl hm hnm hcap
  clear hnm
  cases h1 : treeB l
  · rw [h1] at hG
    have Hv := Lib.hid (shaB_no (a := ia) (b := ib) (.inl h1))
    clear h1
    go_enter Tryd.func21, Tryd.ntmps21
    go_wp2_with fail
    refine hG.mono ?_
    rintro e w1 ⟨rfl, hb1⟩
    have hB1 : Below w.heap.size w w1 := hb1
    go_wp2_with fail
    go_ret2
    exact ⟨none, 0, by rw [Hv.out.1, Hv.out.2]; rfl, by rw [Hv.out.2]; exact Vec.nil, hB1⟩
  · rw [h1] at hG
    cases h2 : hasF l ia
    · have Hv := Lib.hid (shaB_no (b := ib) (.inr (.inl h2)))
      have Hz := Lib.hid (show idxFI l ia = -1 by unfold idxFI; rw [h2]; rfl)
      clear h1 h2
      go_enter Tryd.func21, Tryd.ntmps21
      go_wp2_with fail
      refine hG.mono ?_
      rintro e w1 ⟨rfl, hb1⟩
      have hB1 : Below w.heap.size w w1 := hb1
      go_wp2_with fail
      refine (functionAt_any _ _ l ia _ ((hl.below hB1).more hB1.size) hlm).mono ?_
      rw [Hz.out]
      rintro e w2 ⟨rfl, hb2⟩
      have hB2 := blw hB1 hb2
      go_wp2_with fail
      go_ret2
      exact ⟨none, 0, by rw [Hv.out.1, Hv.out.2]; rfl, by rw [Hv.out.2]; exact Vec.nil, hB2⟩
    · cases h3 : hasF l ib
      · have Hv := Lib.hid (shaB_no (a := ia) (.inr (.inr h3)))
        have Hz := Lib.hid (show idxFI l ia = (idxF l ia : Int) by unfold idxFI; rw [h2]; rfl)
        have Hz2 := Lib.hid (show idxFI l ib = -1 by unfold idxFI; rw [h3]; rfl)
        clear h1 h2 h3
        go_enter Tryd.func21, Tryd.ntmps21
        go_wp2_with fail
        refine hG.mono ?_
        rintro e w1 ⟨rfl, hb1⟩
        have hB1 : Below w.heap.size w w1 := hb1
        go_wp2_with fail
        refine (functionAt_any _ _ l ia _ ((hl.below hB1).more hB1.size) hlm).mono ?_
        rw [Hz.out]
        rintro e w2 ⟨rfl, hb2⟩
        have hB2 := blw hB1 hb2
        go_wp2_with fail
        refine (functionAt_any _ _ l ib _ ((hl.below hB2).more hB2.size) hlm).mono ?_
        rw [Hz2.out]
        rintro e w3 ⟨rfl, hb3⟩
        have hB3 := blw hB2 hb3
        go_wp2_with fail
        go_ret2
        exact ⟨none, 0, by rw [Hv.out.1, Hv.out.2]; rfl, by rw [Hv.out.2]; exact Vec.nil, hB3⟩
      · have Hz := Lib.hid (show idxFI l ia = (idxF l ia : Int) by unfold idxFI; rw [h2]; rfl)
        have Hz2 := Lib.hid (show idxFI l ib = (idxF l ib : Int) by unfold idxFI; rw [h3]; rfl)
        have H1 := Lib.hid h1
        have H2 := Lib.hid h2
        have H3 := Lib.hid h3
        clear h1 h2 h3
        go_enter Tryd.func21, Tryd.ntmps21
        go_wp2_with fail
        refine hG.mono ?_
        rintro e w1 ⟨rfl, hb1⟩
        have hB1 : Below w.heap.size w w1 := hb1
        go_wp2_with fail
        refine (functionAt_any _ _ l ia _ ((hl.below hB1).more hB1.size) hlm).mono ?_
        rw [Hz.out]
        rintro e w2 ⟨rfl, hb2⟩
        have hB2 := blw hB1 hb2
        go_wp2_with fail
        refine (functionAt_any _ _ l ib _ ((hl.below hB2).more hB2.size) hlm).mono ?_
        rw [Hz2.out]
        rintro e w3 ⟨rfl, hb3⟩
        have hB3 := blw hB2 hb3
        go_wp2_with fail
        refine (pathTo_any _ _ l ia _ ((hl.below hB3).more hB3.size) hm H1.out H2.out).mono ?_
        rintro e w4 ⟨A4, c4, rfl, hx4, hb4⟩
        have hB4 := blw hB3 hb4
        go_wp2_with fail
        refine (pathTo_any _ _ l ib _ ((hl.below hB4).more hB4.size) hm H1.out H3.out).mono ?_
        rintro e w5 ⟨A5, c5, rfl, hx5, hb5⟩
        have hB5 := blw hB4 hb5
        replace hx4 := hx4.on hb5
        have hyes := Lib.hid (fun k hk => shaB_yes (k := k) H1.out H2.out H3.out hk)
        have hlx := pathF_len H1.out H2.out
        have hly := pathF_len H1.out H3.out
        have hpx := pathF_pos H1.out H2.out
        have hs4 := hB3.size
        have hs5 := hB4.size
        have hs8 := hB5.size
        have hs9 := hB1.size
        have hs10 : w.heap.size < w3.heap.size ∨ True := .inr trivial
        clear Hz Hz2 H1 H2 H3 hG
        generalize pathF l ia = x at *
        generalize pathF l ib = y at *
        have hcx := hx4.capOk
        obtain ⟨g, rfl⟩ := hx4.some hpx
        have hlsx := (hx4.ls encInt_len)
        have hlsy := (hx5.ls encInt_len)
        go_wp2_with fail
        go_loopw [10] (fun i wr => ∃ n : Nat, n ≤ x.length ∧ n ≤ y.length ∧ i = .int .i64 n ∧ Below w5.heap.size w5 wr ∧ Hid (∀ j, j < n → x[j]? = y[j]?)) (fun i _ => x.length - (intOf i).toNat)
        case atStart => exact ⟨0, Nat.zero_le _, Nat.zero_le _, rfl, Below.refl _ _, fun j hj => absurd hj (Nat.not_lt_zero _)⟩
        case round =>
          obtain ⟨n, hnx, hny, rfl, hb, hh⟩ := hrel
          have hsz := hb.size
          have fin : ∀ k, cpn x y = k → k ≤ x.length → ∀ W', Below w5.heap.size w5 W' → RetSB w 3 encInt 1 (shaL l ia ib) (shaB l ia ib) (.returned (.tuple #[.slice (some ⟨g, 0, none⟩) k c4, .bool true])) W' := fun k hk hkx W' hbw =>
            ⟨some ⟨g, 0, none⟩, c4, by rw [(hyes.out k hk).1, (hyes.out k hk).2, List.length_take, Nat.min_eq_left hkx], by rw [(hyes.out k hk).2, List.length_take, Nat.min_eq_left hkx]; exact ((hx4.cut encInt_len hkx).on hbw).mono hs4, blw hB5 hbw⟩
          have Hfin := Lib.hid fin
          clear fin
          by_cases hlx1 : n < x.length
          · by_cases hly1 : n < y.length
            · have := 0
              obtain ⟨b, off, hb0, hbb, hc0⟩ := (hlsx.below hb).at_Int hlx1
              cases hb0
              obtain ⟨b', off', rfl, hbb', hd0⟩ := (hlsy.below hb).at_Int hly1
              rw [Nat.zero_add] at hc0
              have hq : g < wr.heap.size := by omega
              have hq' : b' < wr.heap.size := by omega
              have hi0 : (0 : Int) ≤ (n : Int) := by omega
              have hi1 : (n : Int) < (x.length : Int) := by omega
              have hi2 : (n : Int) < (y.length : Int) := by omega
              have hi3 : decide ((n : Int) < (x.length : Int)) = true := by simpa using hi1
              have hi4 : decide ((n : Int) < (y.length : Int)) = true := by simpa using hi2
              cases he : x[n] == y[n]
              · have Hc := Lib.hid (cp_end hh.out hlx1 hly1 he)
                go_wp2_with fail
                refine wp_region_calm (by kernel_rfl) (by kernel_rfl) ?_
                repeat (go_big_quiet_step (fail))
                refine wpQuiet_nil ?_
                rintro w6 ⟨x1, hW1⟩
                have hb6 := x1.h
                rw [← hW1] at hb6
                clear hW1 x1
                have hs6 := hb6.size
                go_wp2_with fail
                go_ret2
                exact Hfin.out n Hc.out hnx _ (blw hb hb6)
              · have Hc := Lib.hid (cp_step hh.out hlx1 hly1 he)
                go_wp2_with fail
                refine wp_region_calm (by kernel_rfl) (by kernel_rfl) ?_
                repeat (go_big_quiet_step (fail))
                refine wpQuiet_nil ?_
                rintro w6 ⟨x1, hW1⟩
                have hb6 := x1.h
                rw [← hW1] at hb6
                clear hW1 x1
                have hs6 := hb6.size
                go_wp2_with fail
                go_roundw
                case rel => exact ⟨n + 1, by omega, by omega, by go_num, blw hb hb6, Hc.out⟩
                case measure => simp [intOf]; omega
            · have hny2 : n = y.length := by omega
              have Hc := Lib.hid (cpn_at x y n hnx hny hh.out (.inr (.inl hny2)))
              have hi1 : (n : Int) < (x.length : Int) := by omega
              have hi2 : ¬ (n : Int) < (y.length : Int) := by omega
              have hi3 : decide ((n : Int) < (x.length : Int)) = true := by simpa using hi1
              have hi4 : decide ((n : Int) < (y.length : Int)) = false := by simpa using hi2
              clear hny2
              go_wp2_with fail
              refine wp_region_calm (by kernel_rfl) (by kernel_rfl) ?_
              repeat (go_big_quiet_step (fail))
              refine wpQuiet_nil ?_
              rintro w6 ⟨x1, hW1⟩
              have hb6 := x1.h
              rw [← hW1] at hb6
              clear hW1 x1
              go_wp2_with fail
              go_ret2
              exact Hfin.out n Hc.out hnx _ (blw hb hb6)
          · have hnx2 : n = x.length := by omega
            have Hc := Lib.hid (cpn_at x y n hnx hny hh.out (.inl hnx2))
            have hi1 : ¬ (n : Int) < (x.length : Int) := by omega
            have hi3 : decide ((n : Int) < (x.length : Int)) = false := by simpa using hi1
            clear hnx2
            go_wp2_with fail
            refine wp_region_calm (by kernel_rfl) (by kernel_rfl) ?_
            repeat (go_big_quiet_step (fail))
            refine wpQuiet_nil ?_
            rintro w6 ⟨x1, hW1⟩
            have hb6 := x1.h
            rw [← hW1] at hb6
            clear hW1 x1
            go_wp2_with fail
            go_ret2
            exact Hfin.out n Hc.out hnx _ (blw hb hb6)

set_option maxHeartbeats 4000000 in
theorem c_spec_SharedPath (A : Option Addr) (c : Nat) (l : List FnD) (ia ib : Int) (w : World) (hl : Ls w w.heap.size encFn 3 A l) (hm : l.length ≤ 1048576) (hnm : ∀ f ∈ l, f.name.size ≤ 1048576) (hcap : l.length ≤ c) :
    Calls Tryd.prog 20 #[.slice A l.length c, .int .i64 ia, .int .i64 ib] w (RetSB w 3 encInt 1 (shaL l ia ib) (shaB l ia ib)) := by
  have hlm : l.length ≤ 9223372036854775807 := by omega
  have hlen : (l.length : Int) ≤ 1048576 := by omega
  have hmk : Vec (w.alloc (.cells #[] 3)) w.heap.size 3 encInt 1 (.slice (some ⟨w.heap.size, 0, none⟩) 0 0) [] := Vec.empty _ _ _ (Nat.le_refl _)
  have hbel := blw_alloc (Below.refl w.heap.size w) (.cells #[] 3)
  have hG := l3Good_any A c l (w.alloc (.cells #[] 3)) ((hl.below hbel).more hbel.size) hm hnm hcap
  clear hnm
  cases h1 : treeB l
  · rw [h1] at hG
    have Hv := Lib.hid (shaB_no (a := ia) (b := ib) (.inl h1))
    clear h1
    go_enter Tryd.func20, Tryd.ntmps20
    go_wp2_with fail
    refine hG.mono ?_
    rintro e w1 ⟨rfl, hb1⟩
    have hB1 : Below w.heap.size w w1 := blw hbel hb1
    have hv1 := hmk.on hb1
    go_wp2_with fail
    go_ret2
    exact ⟨_, 0, by rw [Hv.out.1, Hv.out.2]; rfl, by rw [Hv.out.2]; exact hv1, hB1⟩
  · rw [h1] at hG
    cases h2 : hasF l ia
    · have Hv := Lib.hid (shaB_no (b := ib) (.inr (.inl h2)))
      have Hz := Lib.hid (show idxFI l ia = -1 by unfold idxFI; rw [h2]; rfl)
      clear h1 h2
      go_enter Tryd.func20, Tryd.ntmps20
      go_wp2_with fail
      refine hG.mono ?_
      rintro e w1 ⟨rfl, hb1⟩
      have hB1 : Below w.heap.size w w1 := blw hbel hb1
      have hv1 := hmk.on hb1
      go_wp2_with fail
      refine (l3Find_any _ _ l ia _ ((hl.below hB1).more hB1.size) hlm).mono ?_
      rw [Hz.out]
      rintro e w2 ⟨rfl, hb2⟩
      have hB2 := blw hB1 hb2
      have hv2 := hv1.on hb2
      go_wp2_with fail
      go_ret2
      exact ⟨_, 0, by rw [Hv.out.1, Hv.out.2]; rfl, by rw [Hv.out.2]; exact hv2, hB2⟩
    · cases h3 : hasF l ib
      · have Hv := Lib.hid (shaB_no (a := ia) (.inr (.inr h3)))
        have Hz := Lib.hid (show idxFI l ia = (idxF l ia : Int) by unfold idxFI; rw [h2]; rfl)
        have Hz2 := Lib.hid (show idxFI l ib = -1 by unfold idxFI; rw [h3]; rfl)
        clear h1 h2 h3
        go_enter Tryd.func20, Tryd.ntmps20
        go_wp2_with fail
        refine hG.mono ?_
        rintro e w1 ⟨rfl, hb1⟩
        have hB1 : Below w.heap.size w w1 := blw hbel hb1
        have hv1 := hmk.on hb1
        go_wp2_with fail
        refine (l3Find_any _ _ l ia _ ((hl.below hB1).more hB1.size) hlm).mono ?_
        rw [Hz.out]
        rintro e w2 ⟨rfl, hb2⟩
        have hB2 := blw hB1 hb2
        have hv2 := hv1.on hb2
        go_wp2_with fail
        refine (l3Find_any _ _ l ib _ ((hl.below hB2).more hB2.size) hlm).mono ?_
        rw [Hz2.out]
        rintro e w3 ⟨rfl, hb3⟩
        have hB3 := blw hB2 hb3
        have hv3 := hv2.on hb3
        go_wp2_with fail
        go_ret2
        exact ⟨_, 0, by rw [Hv.out.1, Hv.out.2]; rfl, by rw [Hv.out.2]; exact hv3, hB3⟩
      · have Hz := Lib.hid (show idxFI l ia = (idxF l ia : Int) by unfold idxFI; rw [h2]; rfl)
        have Hz2 := Lib.hid (show idxFI l ib = (idxF l ib : Int) by unfold idxFI; rw [h3]; rfl)
        have H1 := Lib.hid h1
        have H2 := Lib.hid h2
        have H3 := Lib.hid h3
        clear h1 h2 h3
        go_enter Tryd.func20, Tryd.ntmps20
        go_wp2_with fail
        refine hG.mono ?_
        rintro e w1 ⟨rfl, hb1⟩
        have hB1 : Below w.heap.size w w1 := blw hbel hb1
        have hv1 := hmk.on hb1
        go_wp2_with fail
        refine (l3Find_any _ _ l ia _ ((hl.below hB1).more hB1.size) hlm).mono ?_
        rw [Hz.out]
        rintro e w2 ⟨rfl, hb2⟩
        have hB2 := blw hB1 hb2
        have hv2 := hv1.on hb2
        go_wp2_with fail
        refine (l3Find_any _ _ l ib _ ((hl.below hB2).more hB2.size) hlm).mono ?_
        rw [Hz2.out]
        rintro e w3 ⟨rfl, hb3⟩
        have hB3 := blw hB2 hb3
        have hv3 := hv2.on hb3
        go_wp2_with fail
        refine (l3Path_any _ _ l ia _ ((hl.below hB3).more hB3.size) hm H1.out H2.out).mono ?_
        rintro e w4 ⟨A4, c4, rfl, hx4, hb4⟩
        have hB4 := blw hB3 hb4
        have hv4 := hv3.on hb4
        go_wp2_with fail
        refine (l3Path_any _ _ l ib _ ((hl.below hB4).more hB4.size) hm H1.out H3.out).mono ?_
        rintro e w5 ⟨A5, c5, rfl, hx5, hb5⟩
        have hB5 := blw hB4 hb5
        have hv5 := hv4.on hb5
        replace hx4 := hx4.on hb5
        have hyes := Lib.hid (fun k hk => shaB_yes (k := k) H1.out H2.out H3.out hk)
        have hlx := pathF_len H1.out H2.out
        have hly := pathF_len H1.out H3.out
        have hpx := pathF_pos H1.out H2.out
        have hs4 := hB3.size
        have hs5 := hB4.size
        have hs8 := hB5.size
        have hs9 := hB1.size
        have hs10 : w.heap.size < w3.heap.size ∨ True := .inr trivial
        clear Hz Hz2 H1 H2 H3 hG
        generalize pathF l ia = x at *
        generalize pathF l ib = y at *
        have hcx := hx4.capOk
        obtain ⟨g, rfl⟩ := hx4.some hpx
        have hlsx := (hx4.ls encInt_len)
        have hlsy := (hx5.ls encInt_len)
        go_wp2_with fail
        go_loopw [8, 11] (fun v i wr => ∃ (n : Nat) (A' : Option Addr) (c' : Nat), n ≤ x.length ∧ n ≤ y.length ∧ i = .int .i64 n ∧ v = .slice A' (tkI x n).length c' ∧ Vec wr w.heap.size 3 encInt 1 (.slice A' (tkI x n).length c') (tkI x n) ∧ Wr (fun b => b = w.heap.size) w5 wr ∧ (∀ b, blkOf A' b → b = w.heap.size ∨ w5.heap.size ≤ b) ∧ Hid (∀ j, j < n → x[j]? = y[j]?)) (fun _ i _ => x.length - (intOf i).toNat)
        case atStart => exact ⟨0, _, 0, Nat.zero_le _, Nat.zero_le _, rfl, rfl, by rw [tkI_zero]; exact hv5, Wr.refl _ _, fun b hb => by obtain ⟨o, ho⟩ := hb; simp at ho; omega, fun j hj => absurd hj (Nat.not_lt_zero _)⟩
        case round =>
          obtain ⟨n, A', c', hnx, hny, rfl, rfl, hv, hb, hA', hh⟩ := hrel
          have hsz := hb.size
          have hnl := Lib.hid (tkI_len hnx)
          have fin : ∀ k, cpn x y = k → k ≤ x.length → ∀ W' A' c', Vec W' w.heap.size 3 encInt 1 (.slice A' (tkI x k).length c') (tkI x k) → Wr (fun b => b = w.heap.size) w5 W' → RetSB w 3 encInt 1 (shaL l ia ib) (shaB l ia ib) (.returned (.tuple #[.slice A' (tkI x k).length c', .bool true])) W' := fun k hk hkx W' A' c' hv hbw =>
            ⟨A', c', by rw [(hyes.out k hk).1, (hyes.out k hk).2]; rfl, by rw [(hyes.out k hk).2]; exact hv, hB5.trans (hbw.below hB5.size (fun q hq => by omega))⟩
          have Hfin := Lib.hid fin
          clear fin
          by_cases hlx1 : n < x.length
          · by_cases hly1 : n < y.length
            · have := 0
              obtain ⟨b, off, hb0, hbb, hc0⟩ := hlsx.at_Int hlx1
              cases hb0
              obtain ⟨b', off', rfl, hbb', hd0⟩ := hlsy.at_Int hly1
              have hs11 := (hv1.block ⟨0, rfl⟩).2
              have hs12 := hb2.size
              have hs13 := hb3.size
              have hs14 := hb4.size
              have hgb := (hx4.block ⟨0, rfl⟩).1
              have hgb' := (hx5.block ⟨off', rfl⟩).1
              replace hc0 : wr.cell? ⟨g, 0 + n, none⟩ = some (.int .i64 x[n]) := (hb.cell hbb (fun h => by omega)).trans hc0
              replace hd0 : wr.cell? ⟨b', off' + n, none⟩ = some (.int .i64 y[n]) := (hb.cell hbb' (fun h => by omega)).trans hd0
              rw [Nat.zero_add] at hc0
              have hq : g < wr.heap.size := by omega
              have hq' : b' < wr.heap.size := by omega
              have hi0 : (0 : Int) ≤ (n : Int) := by omega
              have hi1 : (n : Int) < (x.length : Int) := by omega
              have hi2 : (n : Int) < (y.length : Int) := by omega
              have hi3 : decide ((n : Int) < (x.length : Int)) = true := by simpa using hi1
              have hi4 : decide ((n : Int) < (y.length : Int)) = true := by simpa using hi2
              cases he : x[n] == y[n]
              · have Hc := Lib.hid (cp_end hh.out hlx1 hly1 he)
                go_wp2_with fail
                refine wp_region_calm (by kernel_rfl) (by kernel_rfl) ?_
                repeat (go_big_quiet_step (fail))
                refine wpQuiet_nil ?_
                rintro w6 ⟨x1, hW1⟩
                have hb6 := x1.h
                rw [← hW1] at hb6
                clear hW1 x1
                have hs6 := hb6.size
                go_wp2_with fail
                go_ret2
                exact Hfin.out n Hc.out hnx _ _ _ (hv.on hb6) (hb.trans (Wr.of_below hb6))
              · have Hc := Lib.hid (cp_step hh.out hlx1 hly1 he)
                go_wp2_with fail
                refine wp_region_calm (by kernel_rfl) (by kernel_rfl) ?_
                repeat (go_big_quiet_step (fail))
                refine wpQuiet_nil ?_
                rintro w6 ⟨x1, hW1⟩
                have hb6 := x1.h
                rw [← hW1] at hb6
                clear hW1 x1
                have hs6 := hb6.size
                replace hc0 : w6.cell? ⟨g, n, none⟩ = some (.int .i64 x[n]) := (hb6.cell (p := ⟨g, n, none⟩) hq).trans hc0
                have hv6 := hv.on hb6
                have Hts := Lib.hid (tkI_succ hlx1)
                have hle : (tkI x n).length ≤ 99 := by rw [hnl.out]; omega
                have hF1 : (tkI x n).length + [x[n]].length ≤ maxLen := by unfold maxLen; simp; omega
                have hF2 : ((tkI x n).length + [x[n]].length) * 8 ≤ 140737488355328 := by simp; omega
                go_wp2_with (at_builtin; refine wpList_appG rfl (.tmp 58) (.tmp 63) 36 rfl 3 (.int .i64 0) 1 8 Tryd.underlying36 (by kernel_rfl) rfl (by omega) encInt_len one_int A' c' (tkI x n) rfl (hv6.alloc _) (some ⟨w6.heap.size, 0, none⟩) 1 (w6.heap.size + 1) [x[n]] rfl (Ls.one_at rfl rfl) hF1 hF2 (by simp; omega) ?_; intro A3 c3 w7 hv8 hw7 hA3)
                go_roundw
                case rel =>
                  refine ⟨n + 1, A3, c3, by omega, by omega, by go_num, by rw [Hts.out]; simp, by rw [Hts.out]; exact hv8, ((hb.trans (Wr.of_below hb6)).alloc _).andThen hw7 hA', fun q hq => ?_, Hc.out⟩
                  rcases hA3 q hq with h | h
                  · exact hA' q h
                  · right; simp at h; omega
                case measure => simp [intOf]; omega
            · have hny2 : n = y.length := by omega
              have Hc := Lib.hid (cpn_at x y n hnx hny hh.out (.inr (.inl hny2)))
              have hi1 : (n : Int) < (x.length : Int) := by omega
              have hi2 : ¬ (n : Int) < (y.length : Int) := by omega
              have hi3 : decide ((n : Int) < (x.length : Int)) = true := by simpa using hi1
              have hi4 : decide ((n : Int) < (y.length : Int)) = false := by simpa using hi2
              clear hny2
              go_wp2_with fail
              refine wp_region_calm (by kernel_rfl) (by kernel_rfl) ?_
              repeat (go_big_quiet_step (fail))
              refine wpQuiet_nil ?_
              rintro w6 ⟨x1, hW1⟩
              have hb6 := x1.h
              rw [← hW1] at hb6
              clear hW1 x1
              go_wp2_with fail
              go_ret2
              exact Hfin.out n Hc.out hnx _ _ _ (hv.on hb6) (hb.trans (Wr.of_below hb6))
          · have hnx2 : n = x.length := by omega
            have Hc := Lib.hid (cpn_at x y n hnx hny hh.out (.inl hnx2))
            have hi1 : ¬ (n : Int) < (x.length : Int) := by omega
            have hi3 : decide ((n : Int) < (x.length : Int)) = false := by simpa using hi1
            clear hnx2
            go_wp2_with fail
            refine wp_region_calm (by kernel_rfl) (by kernel_rfl) ?_
            repeat (go_big_quiet_step (fail))
            refine wpQuiet_nil ?_
            rintro w6 ⟨x1, hW1⟩
            have hb6 := x1.h
            rw [← hW1] at hb6
            clear hW1 x1
            go_wp2_with fail
            go_ret2
            exact Hfin.out n Hc.out hnx _ _ _ (hv.on hb6) (hb.trans (Wr.of_below hb6))

end Go.Proofs.YtnjgnehiclkkoaaDoor
