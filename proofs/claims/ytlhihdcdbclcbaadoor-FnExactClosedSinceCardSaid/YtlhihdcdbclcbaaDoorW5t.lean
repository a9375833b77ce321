/- Contracts: ClosedSince of the reference. -/
import Derived.Test.YtlhihdcdbclcbaaDoorW5s
import Derived.Test.YtlhihdcdbclcbaaDoorSg
namespace Go.Proofs.YtlhihdcdbclcbaaDoor
set_option linter.unusedVariables false
set_option linter.unusedSimpArgs false
open Go.RowKit
attribute [local go_sem] Aft.cell

theorem inB_prop2 {x a b : Int} (h : inB x a b = true) : a ≤ x ∧ x ≤ b := by simpa [inB] using h
theorem Vec.apart {α β : Type} {w : World} {b1 b2 : Nat} {t1 t2 : TypeId} {e1 : α → List Value} {e2 : β → List Value} {z1 z2 : Nat} {A1 A2 : Option Addr} {n1 c1 n2 c2 : Nat} {l1 : List α} {l2 : List β}
    (h1 : Vec w b1 t1 e1 z1 (.slice A1 n1 c1) l1) (h2 : Vec w b2 t2 e2 z2 (.slice A2 n2 c2) l2) (ht : t1 ≠ t2) : ∀ q, blkOf A1 q → ¬ blkOf A2 q := by
  rintro q ⟨o, rfl⟩ ⟨o2, h9⟩
  cases h9
  rcases h1.2 with ⟨h, _⟩ | ⟨g, cap, cur, h, _, hg, _⟩
  · simp at h
  · simp at h
    obtain ⟨⟨rfl, _⟩, _⟩ := h
    rcases h2.2 with ⟨h', _⟩ | ⟨g', cap', cur', h', _, hg', _⟩
    · simp at h'
    · simp at h'
      obtain ⟨⟨rfl, _⟩, _⟩ := h'
      rw [hg] at hg'
      simp at hg'
      exact ht hg'.2
theorem Vec.wrA {α : Type} {w w' : World} {base : Nat} {t : TypeId} {en : α → List Value} {sz : Nat} {A : Option Addr} {n c : Nat} {l : List α} {S : Nat → Prop}
    (h : Vec w base t en sz (.slice A n c) l) (hw : Wr S w w') (hn : ∀ q, blkOf A q → ¬ S q) : Vec w' base t en sz (.slice A n c) l :=
  h.wr hw (fun q hq => hn q (by
    cases A with
    | none => simp [Value.ownBlock] at hq
    | some a =>
      rcases h.2 with ⟨h, _⟩ | ⟨g, cap, cur, h, _, hg, _⟩
      · simp at h
      · simp at h
        obtain ⟨rfl, _⟩ := h
        simp [Value.ownBlock] at hq
        exact ⟨0, by rw [hq]⟩))

set_option maxHeartbeats 8000000 in
set_option maxRecDepth 100000 in
theorem c_spec_ClosedSince (A : Option Addr) (c : Nat) (l : List FileD) (fr to : Int) (w : World) (hl : Ls w w.heap.size encFile 7 A l) (hm : l.length ≤ 1048576) (hnm : ∀ f ∈ l, f.title.size ≤ 1048576) (hcap : l.length ≤ c) :
    Calls Tryd.prog 18 #[.slice A l.length c, .int .i64 fr, .int .i64 to] w (RetSB w 3 encInt 1 (closedL l fr to) (closedB l fr to)) := by
  have hlen : (l.length : Int) ≤ 1048576 := by omega
  have hmk : Vec (w.alloc (.cells #[] 3)) w.heap.size 3 encInt 1 (.slice (some ⟨w.heap.size, 0, none⟩) 0 0) [] := Vec.empty _ _ _ (Nat.le_refl _)
  have hbel := blw_alloc (Below.refl w.heap.size w) (.cells #[] 3)
  have hG := l5Good_any A c l (w.alloc (.cells #[] 3)) ((hl.below hbel).more hbel.size) hm hnm hcap
  cases h1 : filesB l
  · have Hv := Lib.hid (closed_no (a := fr) (b := to) (.inl h1))
    rw [h1] at hG
    clear h1 hnm
    go_enter Tryd.func18, Tryd.ntmps18
    go_wp2_with fail
    refine hG.mono ?_
    rintro e w1 ⟨rfl, hb1⟩
    go_wp2_with fail
    go_ret2
    exact ⟨_, 0, by rw [Hv.out.1, Hv.out.2]; rfl, by rw [Hv.out.2]; exact hmk.on hb1, blw hbel hb1⟩
  · rw [h1] at hG
    have hD := l2Day5_any to
    cases h2 : inB to 0 20000
    · have Hv := Lib.hid (closed_no (l := l) (a := fr) (b := to) (.inr (by rw [h2]; simp)))
      rw [h2] at hD
      clear h1 h2 hnm
      go_enter Tryd.func18, Tryd.ntmps18
      go_wp2_with fail
      refine hG.mono ?_
      rintro e w1 ⟨rfl, hb1⟩
      go_wp2_with fail
      refine (hD _).mono ?_
      rintro e w1 ⟨rfl, rfl⟩
      go_wp2_with fail
      go_ret2
      exact ⟨_, 0, by rw [Hv.out.1, Hv.out.2]; rfl, by rw [Hv.out.2]; exact hmk.on hb1, blw hbel hb1⟩
    · rw [h2] at hD
      have hR := l1In5_any fr 0 to
      cases h3 : inB fr 0 to
      · have Hv := Lib.hid (closed_no (l := l) (a := fr) (b := to) (.inr (by
          have h4 := inB_prop2 h2
          cases h5 : (inB fr 0 20000 && inB to 0 20000 && decide (fr ≤ to))
          · rfl
          · simp only [Bool.and_eq_true, decide_eq_true_eq] at h5
            have h6 := inB_prop2 h5.1.1
            rw [show inB fr 0 to = true by simp [inB]; omega] at h3
            cases h3)))
        rw [h3] at hR
        clear h1 h2 h3 hnm
        go_enter Tryd.func18, Tryd.ntmps18
        go_wp2_with fail
        refine hG.mono ?_
        rintro e w1 ⟨rfl, hb1⟩
        go_wp2_with fail
        refine (hD _).mono ?_
        rintro e w1 ⟨rfl, rfl⟩
        go_wp2_with fail
        refine (hR _).mono ?_
        rintro e w1 ⟨rfl, rfl⟩
        go_wp2_with fail
        go_ret2
        exact ⟨_, 0, by rw [Hv.out.1, Hv.out.2]; rfl, by rw [Hv.out.2]; exact hmk.on hb1, blw hbel hb1⟩
      · have Hv := Lib.hid (closed_yes h1 (show (inB fr 0 20000 && inB to 0 20000 && decide (fr ≤ to)) = true by
          have h4 := inB_prop2 h2
          have h5 := inB_prop2 h3
          rw [h2, show inB fr 0 20000 = true by simp [inB]; omega]
          simp; omega))
        rw [h3] at hR
        have hl10 := (files_all h1).1
        have hso := spanL_le l fr to
        clear h1 h2 h3 hnm
        go_enter Tryd.func18, Tryd.ntmps18
        go_wp2_with fail
        refine hG.mono ?_
        rintro e w1 ⟨rfl, hb1⟩
        go_wp2_with fail
        refine (hD _).mono ?_
        rintro e w1 ⟨rfl, rfl⟩
        go_wp2_with fail
        refine (hR _).mono ?_
        rintro e w1 ⟨rfl, rfl⟩
        clear hG hD hR
        have hB1 := blw hbel hb1
        have hmi := hmk.on hb1
        clear hmk
        have hmo : Vec (w1.alloc (.cells #[] 47)) w.heap.size 47 encFile 7 (.slice (some ⟨w1.heap.size, 0, none⟩) 0 0) ([] : List FileD) := Vec.empty _ _ _ hB1.size
        go_wp2_with fail
        go_loopw [9, 10] (fun v i wr => ∃ (k : Nat) (A' : Option Addr) (c' : Nat), k ≤ l.length ∧ i = .int .i64 k ∧ v = .slice A' (ordK l fr to k).length c' ∧ Vec wr w.heap.size 47 encFile 7 (.slice A' (ordK l fr to k).length c') (ordK l fr to k) ∧ Below w.heap.size w wr ∧ Vec wr w.heap.size 3 encInt 1 (.slice (some ⟨w.heap.size, 0, none⟩) 0 0) []) (fun _ i _ => l.length - (intOf i).toNat)
        case atStart => exact ⟨0, some ⟨w1.heap.size, 0, none⟩, 0, Nat.zero_le _, rfl, by rw [ordK_zero]; rfl, by rw [ordK_zero]; exact hmo, blw_alloc hB1 _, hmi.alloc _⟩
        case round =>
          clear hmo hmi
          obtain ⟨i, A', c', hi, rfl, rfl, hv, hbx, hmv⟩ := hrel
          obtain ⟨wo, rfl⟩ : ∃ wo : World, wo = wr := ⟨_, rfl⟩
          by_cases hlt : i < l.length
          · obtain ⟨b, off, rfl, hbb, hc0, hc1, hc2, hc3, hc4, hc5, hc6⟩ := (hl.below hbx).at_File hlt
            have hq : b < wo.heap.size := by have := hbx.size; omega
            have hii : (i : Int) < (l.length : Int) := by omega
            have hW := l1In5_any l[i].closed fr to
            cases hs : (l[i].state == 0)
            · cases hin : inB l[i].closed fr to
              · have Hk := Lib.hid (ordK_no hlt (show spanB fr to l[i] = false by simp only [spanB, hs, hin]; rfl))
                rw [hin] at hW
                clear hin
                go_wp2_with fail
                refine (hW _).mono ?_
                rintro e w2 ⟨rfl, rfl⟩
                go_wp2_with fail
                go_roundw
                case rel => exact ⟨i + 1, A', c', by omega, by go_num, by rw [Hk.out], by rw [Hk.out]; exact hv, hbx, hmv⟩
                case measure => simp [intOf]; omega
              · have HI := Lib.hid (ordK_yes hlt (show spanB fr to l[i] = true by simp only [spanB, hs, hin]; rfl))
                have hol : (ordK l fr to i).length ≤ i := by rw [ordK_len]; exact spanK_le l fr to i
                rw [hin] at hW
                clear hin
                generalize ordK l fr to i = o at *
                have hcapo := hv.capOk
                go_wp2_with fail
                refine (hW _).mono ?_
                rintro e w2 ⟨rfl, rfl⟩
                clear hW
                go_wp2_with fail
                go_loopw [11] (fun kk wr => ∃ j : Nat, j ≤ o.length ∧ kk = .int .i64 j ∧ Below wo.heap.size wo wr ∧ Hid (∀ t (ht : t < o.length), j ≤ t → l[i].closed < o[t].closed)) (fun kk _ => (intOf kk).toNat)
                case atStart => exact ⟨o.length, Nat.le_refl _, rfl, Below.refl _ _, fun t ht h => by omega⟩
                case round =>
                  obtain ⟨j, hj, rfl, hb2, HB⟩ := hrel
                  have hvr := hv.on hb2
                  clear hv
                  have y0 : wr.cell? ⟨b, off + i * 7, none⟩ = some (.int .i64 l[i].id) := (hb2.cell (p := ⟨b, _, none⟩) hq).trans hc0
                  have y1 : wr.cell? ⟨b, off + i * 7 + 1, none⟩ = some (.int .i64 l[i].series) := (hb2.cell (p := ⟨b, _, none⟩) hq).trans hc1
                  have y2 : wr.cell? ⟨b, off + i * 7 + 2, none⟩ = some (.string l[i].title) := (hb2.cell (p := ⟨b, _, none⟩) hq).trans hc2
                  have y3 : wr.cell? ⟨b, off + i * 7 + 3, none⟩ = some (.int .i64 l[i].opened) := (hb2.cell (p := ⟨b, _, none⟩) hq).trans hc3
                  have y4 : wr.cell? ⟨b, off + i * 7 + 4, none⟩ = some (.int .i64 l[i].closed) := (hb2.cell (p := ⟨b, _, none⟩) hq).trans hc4
                  have y5 : wr.cell? ⟨b, off + i * 7 + 5, none⟩ = some (.int .i64 l[i].state) := (hb2.cell (p := ⟨b, _, none⟩) hq).trans hc5
                  have y6 : wr.cell? ⟨b, off + i * 7 + 6, none⟩ = some (.int .i64 l[i].pages) := (hb2.cell (p := ⟨b, _, none⟩) hq).trans hc6
                  clear hc0 hc1 hc2 hc3 hc4 hc5 hc6
                  have hqr : b < wr.heap.size := Nat.lt_of_lt_of_le hq hb2.size
                  by_cases hj0 : 0 < j
                  · obtain ⟨g, rfl⟩ := hvr.some (by omega)
                    have hji : (0 : Int) < (j : Int) := by omega
                    have hj1 : (0 : Int) ≤ (j : Int) - 1 := by omega
                    have hj2 : (j : Int) - 1 < (o.length : Int) := by omega
                    have ho1 : j - 1 < o.length := by omega
                    have hjn : ((j : Int) - 1).toNat = j - 1 := by omega
                    obtain ⟨g', off', heq, hgl, d0, d1, d2, d3, d4, d5, d6⟩ := (hvr.ls encFile_len).at_File ho1
                    cases heq
                    rw [Nat.zero_add] at d4
                    clear d0 d1 d2 d3 d5 d6
                    cases hq2 : decide (o[j - 1].closed > l[i].closed)
                    · have HP := Lib.hid (plcC_at j hj (fun t ht h => HB.out t ht h) (fun _ => by simp at hq2; omega))
                      go_wp2_with fail
                      go_big_region
                      go_wp2_with fail
                      clear d4 hq2
                      by_cases hfull : j < o.length
                      · have hcapo2 := hcapo
                        have hv7 := (hvr.drew)
                        have hmv7 := (hmv.on hb2).drew
                        clear hmv
                        have hB7 : Below w.heap.size w wr.drew := (hbx.trans (hb2.mono hbx.size)).drew
                        have hq7 : b < wr.drew.heap.size := by show b < wr.heap.size; omega
                        have hzw : w.heap.size ≤ wr.drew.heap.size := hB7.size
                        clear hvr hbx hb2
                        replace y0 : wr.drew.cell? ⟨b, off + i * 7, none⟩ = some (.int .i64 l[i].id) := y0
                        replace y1 : wr.drew.cell? ⟨b, off + i * 7 + 1, none⟩ = some (.int .i64 l[i].series) := y1
                        replace y2 : wr.drew.cell? ⟨b, off + i * 7 + 2, none⟩ = some (.string l[i].title) := y2
                        replace y3 : wr.drew.cell? ⟨b, off + i * 7 + 3, none⟩ = some (.int .i64 l[i].opened) := y3
                        replace y4 : wr.drew.cell? ⟨b, off + i * 7 + 4, none⟩ = some (.int .i64 l[i].closed) := y4
                        replace y5 : wr.drew.cell? ⟨b, off + i * 7 + 5, none⟩ = some (.int .i64 l[i].state) := y5
                        replace y6 : wr.drew.cell? ⟨b, off + i * 7 + 6, none⟩ = some (.int .i64 l[i].pages) := y6
                        generalize wr.drew = w7 at *
                        have hLs7 := hv7.ls encFile_len
                        have HLs : Hid (∀ W, Below w7.heap.size w7 W → Ls W W.heap.size encFile 7 (some ⟨g, 0, none⟩) o) := fun W hb => (hLs7.below hb).more hb.size
                        have hlk : (o.take (j)).length = j := by simp; try omega
                        have HLt : Hid (∀ W, Below w7.heap.size w7 W → Ls W W.heap.size encFile 7 (some ⟨g, 0, none⟩) (o.take (j))) := fun W hb => Ls.take_ (HLs.out W hb) _
                        have hld : (o.drop j).length = o.length - j := List.length_drop
                        have hkc : j ≤ c' := by omega
                        have hkc2 : ¬ c' = j := by omega
                        have HLdd : Hid (∀ W, Below w7.heap.size w7 W → Ls W W.heap.size encFile 7 (some ⟨g, j * 7, none⟩) (o.drop j)) := fun W hb => by
                          have h := Ls.drop_ (HLs.out W hb) j (by omega)
                          rwa [Nat.zero_add] at h
                        have HE : Hid ((((([] : List FileD) ++ o.take (j)) ++ [l[i]]) ++ (o.drop j)) = insC o l[i]) := by unfold Hid insC; rw [HP.out]; simp
                        have HL5 : Hid ((([] : List FileD) ++ o.take (j)).length = j) := hlk
                        have HK : Hid (∀ W, Below w7.heap.size w7 W → Below w7.heap.size w7 W ∧ W.cell? ⟨b, off + i * 7, none⟩ = some (.int .i64 l[i].id) ∧ W.cell? ⟨b, off + i * 7 + 1, none⟩ = some (.int .i64 l[i].series) ∧ W.cell? ⟨b, off + i * 7 + 2, none⟩ = some (.string l[i].title) ∧ W.cell? ⟨b, off + i * 7 + 3, none⟩ = some (.int .i64 l[i].opened) ∧ W.cell? ⟨b, off + i * 7 + 4, none⟩ = some (.int .i64 l[i].closed) ∧ W.cell? ⟨b, off + i * 7 + 5, none⟩ = some (.int .i64 l[i].state) ∧ W.cell? ⟨b, off + i * 7 + 6, none⟩ = some (.int .i64 l[i].pages)) := fun W hb => ⟨hb, (hb.cell (p := ⟨b, _, none⟩) hq7).trans y0, (hb.cell (p := ⟨b, _, none⟩) hq7).trans y1, (hb.cell (p := ⟨b, _, none⟩) hq7).trans y2, (hb.cell (p := ⟨b, _, none⟩) hq7).trans y3, (hb.cell (p := ⟨b, _, none⟩) hq7).trans y4, (hb.cell (p := ⟨b, _, none⟩) hq7).trans y5, (hb.cell (p := ⟨b, _, none⟩) hq7).trans y6⟩
                        clear y0 y1 y2 y3 y4 y5 y6 hLs7
                        refine wp_region_noPanic ?_
                        refine wp_region_held_drew (S := fun W => Below w7.heap.size w7 W ∧ W.cell? ⟨b, off + i * 7, none⟩ = some (.int .i64 l[i].id) ∧ W.cell? ⟨b, off + i * 7 + 1, none⟩ = some (.int .i64 l[i].series) ∧ W.cell? ⟨b, off + i * 7 + 2, none⟩ = some (.string l[i].title) ∧ W.cell? ⟨b, off + i * 7 + 3, none⟩ = some (.int .i64 l[i].opened) ∧ W.cell? ⟨b, off + i * 7 + 4, none⟩ = some (.int .i64 l[i].closed) ∧ W.cell? ⟨b, off + i * 7 + 5, none⟩ = some (.int .i64 l[i].state) ∧ W.cell? ⟨b, off + i * 7 + 6, none⟩ = some (.int .i64 l[i].pages)) (by kernel_rfl) (HK.out _ (Below.refl _ _).drew) (fun hHeld => ?_)
                        generalize w7.drew = v0 at *
                        refine wpAnyH_take (i := 1) (v := ?v1) rfl (by kernel_rfl) (by kernel_rfl) (by kernel_rfl) (fun _ _ _ h => h) (Or.inl ⟨by rfl, ?hy1⟩) hHeld ?rest1
                        case hy1 => (intro W hSw; (try dsimp only at hSw); go_simp) <;> with_reducible rfl
                        try simp only [Act.put, List.setIfInBounds_toArray, List.set_cons_zero, List.set_cons_succ, List.getElem_toArray, List.getElem_cons_succ, List.getElem_cons_zero]
                        refine wpAnyH_take (i := 2) (v := ?v2) rfl (by kernel_rfl) (by kernel_rfl) (by kernel_rfl) (fun _ _ _ h => h) (Or.inl ⟨by rfl, ?hy2⟩) hHeld ?rest2
                        case hy2 => (intro W hSw; (try dsimp only at hSw); go_simp) <;> with_reducible rfl
                        try simp only [Act.put, List.setIfInBounds_toArray, List.set_cons_zero, List.set_cons_succ, List.getElem_toArray, List.getElem_cons_succ, List.getElem_cons_zero]
                        refine wpAnyH_take (i := 3) (v := ?v3) rfl (by kernel_rfl) (by kernel_rfl) (by kernel_rfl) (fun _ _ _ h => h) (Or.inl ⟨by rfl, ?hy3⟩) hHeld ?rest3
                        case hy3 => (intro W hSw; (try dsimp only at hSw); go_simp) <;> with_reducible rfl
                        try simp only [Act.put, List.setIfInBounds_toArray, List.set_cons_zero, List.set_cons_succ, List.getElem_toArray, List.getElem_cons_succ, List.getElem_cons_zero]
                        refine wpAnyH_take (i := 5) (v := ?v4) rfl (by kernel_rfl) (by kernel_rfl) (by kernel_rfl) (fun _ _ _ h => h) (Or.inl ⟨by rfl, ?hy4⟩) hHeld ?rest4
                        case hy4 => (intro W hSw; (try dsimp only at hSw); go_simp) <;> with_reducible rfl
                        try simp only [Act.put, List.setIfInBounds_toArray, List.set_cons_zero, List.set_cons_succ, List.getElem_toArray, List.getElem_cons_succ, List.getElem_cons_zero]
                        refine wpAnyH_take (i := 6) (v := ?v5) rfl (by kernel_rfl) (by kernel_rfl) (by kernel_rfl) (fun _ _ _ h => h) (Or.inl ⟨by rfl, ?hy5⟩) hHeld ?rest5
                        case hy5 => (intro W hSw; (try dsimp only at hSw); go_simp) <;> with_reducible rfl
                        try simp only [Act.put, List.setIfInBounds_toArray, List.set_cons_zero, List.set_cons_succ, List.getElem_toArray, List.getElem_cons_succ, List.getElem_cons_zero]
                        refine wpAnyH_take (i := 7) (v := ?v6) rfl (by kernel_rfl) (by kernel_rfl) (by kernel_rfl) (fun _ _ _ h => h) (Or.inl ⟨by rfl, ?hy6⟩) hHeld ?rest6
                        case hy6 => (intro W hSw; (try dsimp only at hSw); go_simp) <;> with_reducible rfl
                        try simp only [Act.put, List.setIfInBounds_toArray, List.set_cons_zero, List.set_cons_succ, List.getElem_toArray, List.getElem_cons_succ, List.getElem_cons_zero]
                        refine wpAnyH_take (i := 8) (v := ?v7) rfl (by kernel_rfl) (by kernel_rfl) (by kernel_rfl) (fun _ _ _ h => h) (Or.inl ⟨by rfl, ?hy7⟩) hHeld ?rest7
                        case hy7 => (intro W hSw; (try dsimp only at hSw); go_simp) <;> with_reducible rfl
                        try simp only [Act.put, List.setIfInBounds_toArray, List.set_cons_zero, List.set_cons_succ, List.getElem_toArray, List.getElem_cons_succ, List.getElem_cons_zero]
                        refine wpAnyH_take (i := 11) (v := ?v8) rfl (by kernel_rfl) (by kernel_rfl) (by kernel_rfl) (fun _ _ _ h => h) (Or.inl ⟨by rfl, ?hy8⟩) hHeld ?rest8
                        case hy8 => (intro W hSw; (try dsimp only at hSw); go_simp) <;> with_reducible rfl
                        try simp only [Act.put, List.setIfInBounds_toArray, List.set_cons_zero, List.set_cons_succ, List.getElem_toArray, List.getElem_cons_succ, List.getElem_cons_zero]
                        refine wpAnyH_take (i := 12) (v := ?v9) rfl (by kernel_rfl) (by kernel_rfl) (by kernel_rfl) (fun _ _ _ h => h) (Or.inl ⟨by rfl, ?hy9⟩) hHeld ?rest9
                        case hy9 => (intro W hSw; (try dsimp only at hSw); go_simp) <;> with_reducible rfl
                        try simp only [Act.put, List.setIfInBounds_toArray, List.set_cons_zero, List.set_cons_succ, List.getElem_toArray, List.getElem_cons_succ, List.getElem_cons_zero]
                        refine wpAnyH_take (i := 13) (v := ?v10) rfl (by kernel_rfl) (by kernel_rfl) (by kernel_rfl) (fun _ _ _ h => h) (Or.inl ⟨by rfl, ?hy10⟩) hHeld ?rest10
                        case hy10 => (intro W hSw; (try dsimp only at hSw); go_simp) <;> with_reducible rfl
                        try simp only [Act.put, List.setIfInBounds_toArray, List.set_cons_zero, List.set_cons_succ, List.getElem_toArray, List.getElem_cons_succ, List.getElem_cons_zero]
                        refine wpAnyH_ready (rs := [0, 9]) (by kernel_rfl) (by simp) ?_
                        refine AllReadyH.cons rfl (fun K hK => ?_) (AllReadyH.cons rfl (fun K hK => ?_) AllReadyH.nil)
                        · go_simp
                          refine hK.out _ _ (HK.out _ (Below.alloc hHeld.1 hHeld.1.size _)) (fun hH2 => ?_)
                          have hzN0 : w7.heap.size ≤ v0.heap.size := hHeld.1.size
                          clear hK K hHeld
                          have hHeld := hH2
                          clear hH2
                          have b0 : Blk (v0.alloc (.cells #[] 47)) v0.heap.size 47 #[] := Blk.new v0 47 #[]
                          generalize (v0.alloc (.cells #[] 47)) = v1 at *
                          generalize v0.heap.size = N0 at *
                          try simp only [Act.put, List.setIfInBounds_toArray, List.set_cons_zero, List.set_cons_succ, List.getElem_toArray, List.getElem_cons_succ, List.getElem_cons_zero]
                          refine wpAnyH_ready (rs := [4, 9]) (by kernel_rfl) (by simp) ?_
                          refine AllReadyH.cons rfl (fun K hK => ?_) (AllReadyH.cons rfl (fun K hK => ?_) AllReadyH.nil)
                          · refine step_appN (base := w7.heap.size) rfl (.tmp 73) (.tmp 76) 27 rfl 47 (.agg #[.int .i64 0, .int .i64 0, .string ⟨#[]⟩, .int .i64 0, .int .i64 0, .int .i64 0, .int .i64 0]) 7 64 Tryd.underlying27 (by kernel_rfl) rfl (by omega) encFile_len one_file _ 0 0 ([] : List FileD) rfl rfl (Vec.empty_at (base := w7.heap.size) b0 hzN0) (some ⟨g, 0, none⟩) c' _ (j) (o.take (j)) hlk rfl (HLt.out _ hHeld.1) (by unfold maxLen; omega) (by omega) hHeld.1.size (j) (by omega) ?_
                            intro A5 c5 v2 hv5 hw5
                            have hwi := hw5.below (B := w7.heap.size) hHeld.1.size (fun q hq => by obtain ⟨_, hx⟩ := hq; cases hx; exact hzN0)
                            refine hK.out _ _ (HK.out _ (hHeld.1.trans hwi)) (fun hH2 => ?_)
                            clear hK K hHeld
                            have hHeld := hH2
                            clear hH2
                            clear hwi
                            try simp only [Act.put, List.setIfInBounds_toArray, List.set_cons_zero, List.set_cons_succ, List.getElem_toArray, List.getElem_cons_succ, List.getElem_cons_zero]
                            refine wpAnyH_ready (rs := [9]) (by kernel_rfl) (by simp) ?_
                            refine AllReadyH.cons rfl (fun K hK => ?_) AllReadyH.nil
                            go_simp
                            refine hK.out _ _ (HK.out _ (Below.alloc hHeld.1 hHeld.1.size _)) (fun hH2 => ?_)
                            have hzN1 : w7.heap.size ≤ v2.heap.size := hHeld.1.size
                            clear hK K hHeld
                            have hHeld := hH2
                            clear hH2
                            replace hv5 := hv5.alloc (.cells #[.int .i64 l[i].id, .int .i64 l[i].series, .string l[i].title, .int .i64 l[i].opened, .int .i64 l[i].closed, .int .i64 l[i].state, .int .i64 l[i].pages] 47)
                            have b1 : Blk (v2.alloc (.cells #[.int .i64 l[i].id, .int .i64 l[i].series, .string l[i].title, .int .i64 l[i].opened, .int .i64 l[i].closed, .int .i64 l[i].state, .int .i64 l[i].pages] 47)) v2.heap.size 47 #[.int .i64 l[i].id, .int .i64 l[i].series, .string l[i].title, .int .i64 l[i].opened, .int .i64 l[i].closed, .int .i64 l[i].state, .int .i64 l[i].pages] := Blk.new v2 47 #[.int .i64 l[i].id, .int .i64 l[i].series, .string l[i].title, .int .i64 l[i].opened, .int .i64 l[i].closed, .int .i64 l[i].state, .int .i64 l[i].pages]
                            generalize (v2.alloc (.cells #[.int .i64 l[i].id, .int .i64 l[i].series, .string l[i].title, .int .i64 l[i].opened, .int .i64 l[i].closed, .int .i64 l[i].state, .int .i64 l[i].pages] 47)) = v3 at *
                            generalize v2.heap.size = N1 at *
                            try simp only [Act.put, List.setIfInBounds_toArray, List.set_cons_zero, List.set_cons_succ, List.getElem_toArray, List.getElem_cons_succ, List.getElem_cons_zero]
                            refine wpAnyH_ready (rs := [10]) (by kernel_rfl) (by simp) ?_
                            refine AllReadyH.cons rfl (fun K hK => ?_) AllReadyH.nil
                            refine step_appN (base := w7.heap.size) rfl (.tmp 77) (.tmp 82) 27 rfl 47 (.agg #[.int .i64 0, .int .i64 0, .string ⟨#[]⟩, .int .i64 0, .int .i64 0, .int .i64 0, .int .i64 0]) 7 64 Tryd.underlying27 (by kernel_rfl) rfl (by omega) encFile_len one_file A5 c5 (j) (([] : List FileD) ++ o.take (j)) HL5.out rfl hv5 _ 1 _ 1 [l[i]] rfl rfl (Ls.blkc b1 rfl) (by unfold maxLen; omega) (by omega) hHeld.1.size (j + 1) (by omega) ?_
                            intro A6 c6 v4 hv6 hw6
                            have hwi := hw6.below (B := w7.heap.size) hHeld.1.size (fun q hq => (hv5.block hq).1)
                            refine hK.out _ _ (HK.out _ (hHeld.1.trans hwi)) (fun hH2 => ?_)
                            clear hK K hHeld
                            have hHeld := hH2
                            clear hH2
                            clear hwi
                            try simp only [Act.put, List.setIfInBounds_toArray, List.set_cons_zero, List.set_cons_succ, List.getElem_toArray, List.getElem_cons_succ, List.getElem_cons_zero]
                            refine wpAnyH_ready (rs := [14]) (by kernel_rfl) (by simp) ?_
                            refine AllReadyH.cons rfl (fun K hK => ?_) AllReadyH.nil
                            refine step_appN (base := w7.heap.size) rfl (.tmp 83) (.tmp 86) 27 rfl 47 (.agg #[.int .i64 0, .int .i64 0, .string ⟨#[]⟩, .int .i64 0, .int .i64 0, .int .i64 0, .int .i64 0]) 7 64 Tryd.underlying27 (by kernel_rfl) rfl (by omega) encFile_len one_file A6 c6 (j + 1) ((([] : List FileD) ++ o.take (j)) ++ [l[i]]) (by rw [List.length_append, HL5.out]; rfl) rfl hv6 (some ⟨g, j * 7, none⟩) (c' - j) _ (o.length - j) (o.drop j) hld rfl (HLdd.out _ hHeld.1) (by unfold maxLen; omega) (by omega) hHeld.1.size (o.length + 1) (by omega) ?_
                            intro A9 c9 v5 hv9 hw7
                            have hwi := hw7.below (B := w7.heap.size) hHeld.1.size (fun q hq => (hv6.block hq).1)
                            refine hK.out _ _ (HK.out _ (hHeld.1.trans hwi)) (fun hH2 => ?_)
                            clear hK K hHeld
                            have hHeld := hH2
                            clear hH2
                            clear hwi
                            try simp only [Act.put, List.setIfInBounds_toArray, List.set_cons_zero, List.set_cons_succ, List.getElem_toArray, List.getElem_cons_succ, List.getElem_cons_zero]
                            refine wpAnyH_take (i := 15) (v := ?v11) rfl (by kernel_rfl) (by kernel_rfl) (by kernel_rfl) (fun _ _ _ h => h) (Or.inl ⟨by rfl, ?hy11⟩) hHeld ?rest11
                            case hy11 => (intro W hSw; (try dsimp only at hSw); go_simp) <;> with_reducible rfl
                            try simp only [Act.put, List.setIfInBounds_toArray, List.set_cons_zero, List.set_cons_succ, List.getElem_toArray, List.getElem_cons_succ, List.getElem_cons_zero]
                            refine wpAnyH_done (by kernel_rfl) ?_ _
                            refine NoPanic.normal ?_
                            have hB9 := hB7.trans (hHeld.1.mono hzw)
                            have hmv9 := hmv7.below hHeld.1 (Nat.le_refl _)
                            rw [HE.out] at hv9
                            go_wp2_with fail
                            go_roundw
                            case rel => exact ⟨i + 1, A9, c9, by omega, by go_num, by rw [HI.out, insC_len], by rw [HI.out, insC_len]; exact hv9.mono hzw, hB9, hmv9⟩
                            case measure => simp [intOf]; omega
                          · go_simp
                            refine hK.out _ _ (HK.out _ (Below.alloc hHeld.1 hHeld.1.size _)) (fun hH2 => ?_)
                            have hzN1 : w7.heap.size ≤ v1.heap.size := hHeld.1.size
                            clear hK K hHeld
                            have hHeld := hH2
                            clear hH2
                            have lt_N0_N1 : N0 < v1.heap.size := b0.lt
                            replace b0 := b0.alloc (.cells #[.int .i64 l[i].id, .int .i64 l[i].series, .string l[i].title, .int .i64 l[i].opened, .int .i64 l[i].closed, .int .i64 l[i].state, .int .i64 l[i].pages] 47)
                            have b1 : Blk (v1.alloc (.cells #[.int .i64 l[i].id, .int .i64 l[i].series, .string l[i].title, .int .i64 l[i].opened, .int .i64 l[i].closed, .int .i64 l[i].state, .int .i64 l[i].pages] 47)) v1.heap.size 47 #[.int .i64 l[i].id, .int .i64 l[i].series, .string l[i].title, .int .i64 l[i].opened, .int .i64 l[i].closed, .int .i64 l[i].state, .int .i64 l[i].pages] := Blk.new v1 47 #[.int .i64 l[i].id, .int .i64 l[i].series, .string l[i].title, .int .i64 l[i].opened, .int .i64 l[i].closed, .int .i64 l[i].state, .int .i64 l[i].pages]
                            generalize (v1.alloc (.cells #[.int .i64 l[i].id, .int .i64 l[i].series, .string l[i].title, .int .i64 l[i].opened, .int .i64 l[i].closed, .int .i64 l[i].state, .int .i64 l[i].pages] 47)) = v6 at *
                            generalize v1.heap.size = N1 at *
                            try simp only [Act.put, List.setIfInBounds_toArray, List.set_cons_zero, List.set_cons_succ, List.getElem_toArray, List.getElem_cons_succ, List.getElem_cons_zero]
                            refine wpAnyH_ready (rs := [4]) (by kernel_rfl) (by simp) ?_
                            refine AllReadyH.cons rfl (fun K hK => ?_) AllReadyH.nil
                            refine step_appN (base := w7.heap.size) rfl (.tmp 73) (.tmp 76) 27 rfl 47 (.agg #[.int .i64 0, .int .i64 0, .string ⟨#[]⟩, .int .i64 0, .int .i64 0, .int .i64 0, .int .i64 0]) 7 64 Tryd.underlying27 (by kernel_rfl) rfl (by omega) encFile_len one_file _ 0 0 ([] : List FileD) rfl rfl (Vec.empty_at (base := w7.heap.size) b0 hzN0) (some ⟨g, 0, none⟩) c' _ (j) (o.take (j)) hlk rfl (HLt.out _ hHeld.1) (by unfold maxLen; omega) (by omega) hHeld.1.size (j) (by omega) ?_
                            intro A5 c5 v7 hv5 hw5
                            have hwi := hw5.below (B := w7.heap.size) hHeld.1.size (fun q hq => by obtain ⟨_, hx⟩ := hq; cases hx; exact hzN0)
                            replace b1 := b1.wr hw5 (fun hq => by obtain ⟨_, hx⟩ := hq; cases hx; omega)
                            refine hK.out _ _ (HK.out _ (hHeld.1.trans hwi)) (fun hH2 => ?_)
                            clear hK K hHeld
                            have hHeld := hH2
                            clear hH2
                            clear hwi
                            try simp only [Act.put, List.setIfInBounds_toArray, List.set_cons_zero, List.set_cons_succ, List.getElem_toArray, List.getElem_cons_succ, List.getElem_cons_zero]
                            refine wpAnyH_ready (rs := [10]) (by kernel_rfl) (by simp) ?_
                            refine AllReadyH.cons rfl (fun K hK => ?_) AllReadyH.nil
                            refine step_appN (base := w7.heap.size) rfl (.tmp 77) (.tmp 82) 27 rfl 47 (.agg #[.int .i64 0, .int .i64 0, .string ⟨#[]⟩, .int .i64 0, .int .i64 0, .int .i64 0, .int .i64 0]) 7 64 Tryd.underlying27 (by kernel_rfl) rfl (by omega) encFile_len one_file A5 c5 (j) (([] : List FileD) ++ o.take (j)) HL5.out rfl hv5 _ 1 _ 1 [l[i]] rfl rfl (Ls.blkc b1 rfl) (by unfold maxLen; omega) (by omega) hHeld.1.size (j + 1) (by omega) ?_
                            intro A6 c6 v8 hv6 hw6
                            have hwi := hw6.below (B := w7.heap.size) hHeld.1.size (fun q hq => (hv5.block hq).1)
                            refine hK.out _ _ (HK.out _ (hHeld.1.trans hwi)) (fun hH2 => ?_)
                            clear hK K hHeld
                            have hHeld := hH2
                            clear hH2
                            clear hwi
                            try simp only [Act.put, List.setIfInBounds_toArray, List.set_cons_zero, List.set_cons_succ, List.getElem_toArray, List.getElem_cons_succ, List.getElem_cons_zero]
                            refine wpAnyH_ready (rs := [14]) (by kernel_rfl) (by simp) ?_
                            refine AllReadyH.cons rfl (fun K hK => ?_) AllReadyH.nil
                            refine step_appN (base := w7.heap.size) rfl (.tmp 83) (.tmp 86) 27 rfl 47 (.agg #[.int .i64 0, .int .i64 0, .string ⟨#[]⟩, .int .i64 0, .int .i64 0, .int .i64 0, .int .i64 0]) 7 64 Tryd.underlying27 (by kernel_rfl) rfl (by omega) encFile_len one_file A6 c6 (j + 1) ((([] : List FileD) ++ o.take (j)) ++ [l[i]]) (by rw [List.length_append, HL5.out]; rfl) rfl hv6 (some ⟨g, j * 7, none⟩) (c' - j) _ (o.length - j) (o.drop j) hld rfl (HLdd.out _ hHeld.1) (by unfold maxLen; omega) (by omega) hHeld.1.size (o.length + 1) (by omega) ?_
                            intro A9 c9 v9 hv9 hw7
                            have hwi := hw7.below (B := w7.heap.size) hHeld.1.size (fun q hq => (hv6.block hq).1)
                            refine hK.out _ _ (HK.out _ (hHeld.1.trans hwi)) (fun hH2 => ?_)
                            clear hK K hHeld
                            have hHeld := hH2
                            clear hH2
                            clear hwi
                            try simp only [Act.put, List.setIfInBounds_toArray, List.set_cons_zero, List.set_cons_succ, List.getElem_toArray, List.getElem_cons_succ, List.getElem_cons_zero]
                            refine wpAnyH_take (i := 15) (v := ?v12) rfl (by kernel_rfl) (by kernel_rfl) (by kernel_rfl) (fun _ _ _ h => h) (Or.inl ⟨by rfl, ?hy12⟩) hHeld ?rest12
                            case hy12 => (intro W hSw; (try dsimp only at hSw); go_simp) <;> with_reducible rfl
                            try simp only [Act.put, List.setIfInBounds_toArray, List.set_cons_zero, List.set_cons_succ, List.getElem_toArray, List.getElem_cons_succ, List.getElem_cons_zero]
                            refine wpAnyH_done (by kernel_rfl) ?_ _
                            refine NoPanic.normal ?_
                            have hB9 := hB7.trans (hHeld.1.mono hzw)
                            have hmv9 := hmv7.below hHeld.1 (Nat.le_refl _)
                            rw [HE.out] at hv9
                            go_wp2_with fail
                            go_roundw
                            case rel => exact ⟨i + 1, A9, c9, by omega, by go_num, by rw [HI.out, insC_len], by rw [HI.out, insC_len]; exact hv9.mono hzw, hB9, hmv9⟩
                            case measure => simp [intOf]; omega
                        · go_simp
                          refine hK.out _ _ (HK.out _ (Below.alloc hHeld.1 hHeld.1.size _)) (fun hH2 => ?_)
                          have hzN1 : w7.heap.size ≤ v0.heap.size := hHeld.1.size
                          clear hK K hHeld
                          have hHeld := hH2
                          clear hH2
                          have b1 : Blk (v0.alloc (.cells #[.int .i64 l[i].id, .int .i64 l[i].series, .string l[i].title, .int .i64 l[i].opened, .int .i64 l[i].closed, .int .i64 l[i].state, .int .i64 l[i].pages] 47)) v0.heap.size 47 #[.int .i64 l[i].id, .int .i64 l[i].series, .string l[i].title, .int .i64 l[i].opened, .int .i64 l[i].closed, .int .i64 l[i].state, .int .i64 l[i].pages] := Blk.new v0 47 #[.int .i64 l[i].id, .int .i64 l[i].series, .string l[i].title, .int .i64 l[i].opened, .int .i64 l[i].closed, .int .i64 l[i].state, .int .i64 l[i].pages]
                          generalize (v0.alloc (.cells #[.int .i64 l[i].id, .int .i64 l[i].series, .string l[i].title, .int .i64 l[i].opened, .int .i64 l[i].closed, .int .i64 l[i].state, .int .i64 l[i].pages] 47)) = v10 at *
                          generalize v0.heap.size = N1 at *
                          try simp only [Act.put, List.setIfInBounds_toArray, List.set_cons_zero, List.set_cons_succ, List.getElem_toArray, List.getElem_cons_succ, List.getElem_cons_zero]
                          refine wpAnyH_ready (rs := [0]) (by kernel_rfl) (by simp) ?_
                          refine AllReadyH.cons rfl (fun K hK => ?_) AllReadyH.nil
                          go_simp
                          refine hK.out _ _ (HK.out _ (Below.alloc hHeld.1 hHeld.1.size _)) (fun hH2 => ?_)
                          have hzN0 : w7.heap.size ≤ v10.heap.size := hHeld.1.size
                          clear hK K hHeld
                          have hHeld := hH2
                          clear hH2
                          have lt_N1_N0 : N1 < v10.heap.size := b1.lt
                          replace b1 := b1.alloc (.cells #[] 47)
                          have b0 : Blk (v10.alloc (.cells #[] 47)) v10.heap.size 47 #[] := Blk.new v10 47 #[]
                          generalize (v10.alloc (.cells #[] 47)) = v11 at *
                          generalize v10.heap.size = N0 at *
                          try simp only [Act.put, List.setIfInBounds_toArray, List.set_cons_zero, List.set_cons_succ, List.getElem_toArray, List.getElem_cons_succ, List.getElem_cons_zero]
                          refine wpAnyH_ready (rs := [4]) (by kernel_rfl) (by simp) ?_
                          refine AllReadyH.cons rfl (fun K hK => ?_) AllReadyH.nil
                          refine step_appN (base := w7.heap.size) rfl (.tmp 73) (.tmp 76) 27 rfl 47 (.agg #[.int .i64 0, .int .i64 0, .string ⟨#[]⟩, .int .i64 0, .int .i64 0, .int .i64 0, .int .i64 0]) 7 64 Tryd.underlying27 (by kernel_rfl) rfl (by omega) encFile_len one_file _ 0 0 ([] : List FileD) rfl rfl (Vec.empty_at (base := w7.heap.size) b0 hzN0) (some ⟨g, 0, none⟩) c' _ (j) (o.take (j)) hlk rfl (HLt.out _ hHeld.1) (by unfold maxLen; omega) (by omega) hHeld.1.size (j) (by omega) ?_
                          intro A5 c5 v12 hv5 hw5
                          have hwi := hw5.below (B := w7.heap.size) hHeld.1.size (fun q hq => by obtain ⟨_, hx⟩ := hq; cases hx; exact hzN0)
                          replace b1 := b1.wr hw5 (fun hq => by obtain ⟨_, hx⟩ := hq; cases hx; omega)
                          refine hK.out _ _ (HK.out _ (hHeld.1.trans hwi)) (fun hH2 => ?_)
                          clear hK K hHeld
                          have hHeld := hH2
                          clear hH2
                          clear hwi
                          try simp only [Act.put, List.setIfInBounds_toArray, List.set_cons_zero, List.set_cons_succ, List.getElem_toArray, List.getElem_cons_succ, List.getElem_cons_zero]
                          refine wpAnyH_ready (rs := [10]) (by kernel_rfl) (by simp) ?_
                          refine AllReadyH.cons rfl (fun K hK => ?_) AllReadyH.nil
                          refine step_appN (base := w7.heap.size) rfl (.tmp 77) (.tmp 82) 27 rfl 47 (.agg #[.int .i64 0, .int .i64 0, .string ⟨#[]⟩, .int .i64 0, .int .i64 0, .int .i64 0, .int .i64 0]) 7 64 Tryd.underlying27 (by kernel_rfl) rfl (by omega) encFile_len one_file A5 c5 (j) (([] : List FileD) ++ o.take (j)) HL5.out rfl hv5 _ 1 _ 1 [l[i]] rfl rfl (Ls.blkc b1 rfl) (by unfold maxLen; omega) (by omega) hHeld.1.size (j + 1) (by omega) ?_
                          intro A6 c6 v13 hv6 hw6
                          have hwi := hw6.below (B := w7.heap.size) hHeld.1.size (fun q hq => (hv5.block hq).1)
                          refine hK.out _ _ (HK.out _ (hHeld.1.trans hwi)) (fun hH2 => ?_)
                          clear hK K hHeld
                          have hHeld := hH2
                          clear hH2
                          clear hwi
                          try simp only [Act.put, List.setIfInBounds_toArray, List.set_cons_zero, List.set_cons_succ, List.getElem_toArray, List.getElem_cons_succ, List.getElem_cons_zero]
                          refine wpAnyH_ready (rs := [14]) (by kernel_rfl) (by simp) ?_
                          refine AllReadyH.cons rfl (fun K hK => ?_) AllReadyH.nil
                          refine step_appN (base := w7.heap.size) rfl (.tmp 83) (.tmp 86) 27 rfl 47 (.agg #[.int .i64 0, .int .i64 0, .string ⟨#[]⟩, .int .i64 0, .int .i64 0, .int .i64 0, .int .i64 0]) 7 64 Tryd.underlying27 (by kernel_rfl) rfl (by omega) encFile_len one_file A6 c6 (j + 1) ((([] : List FileD) ++ o.take (j)) ++ [l[i]]) (by rw [List.length_append, HL5.out]; rfl) rfl hv6 (some ⟨g, j * 7, none⟩) (c' - j) _ (o.length - j) (o.drop j) hld rfl (HLdd.out _ hHeld.1) (by unfold maxLen; omega) (by omega) hHeld.1.size (o.length + 1) (by omega) ?_
                          intro A9 c9 v14 hv9 hw7
                          have hwi := hw7.below (B := w7.heap.size) hHeld.1.size (fun q hq => (hv6.block hq).1)
                          refine hK.out _ _ (HK.out _ (hHeld.1.trans hwi)) (fun hH2 => ?_)
                          clear hK K hHeld
                          have hHeld := hH2
                          clear hH2
                          clear hwi
                          try simp only [Act.put, List.setIfInBounds_toArray, List.set_cons_zero, List.set_cons_succ, List.getElem_toArray, List.getElem_cons_succ, List.getElem_cons_zero]
                          refine wpAnyH_take (i := 15) (v := ?v13) rfl (by kernel_rfl) (by kernel_rfl) (by kernel_rfl) (fun _ _ _ h => h) (Or.inl ⟨by rfl, ?hy13⟩) hHeld ?rest13
                          case hy13 => (intro W hSw; (try dsimp only at hSw); go_simp) <;> with_reducible rfl
                          try simp only [Act.put, List.setIfInBounds_toArray, List.set_cons_zero, List.set_cons_succ, List.getElem_toArray, List.getElem_cons_succ, List.getElem_cons_zero]
                          refine wpAnyH_done (by kernel_rfl) ?_ _
                          refine NoPanic.normal ?_
                          have hB9 := hB7.trans (hHeld.1.mono hzw)
                          have hmv9 := hmv7.below hHeld.1 (Nat.le_refl _)
                          rw [HE.out] at hv9
                          go_wp2_with fail
                          go_roundw
                          case rel => exact ⟨i + 1, A9, c9, by omega, by go_num, by rw [HI.out, insC_len], by rw [HI.out, insC_len]; exact hv9.mono hzw, hB9, hmv9⟩
                          case measure => simp [intOf]; omega
                      · obtain rfl : j = o.length := by omega
                        have hv7 := (hvr.drew)
                        have hmv7 := (hmv.on hb2).drew
                        clear hmv
                        have hB7 : Below w.heap.size w wr.drew := (hbx.trans (hb2.mono hbx.size)).drew
                        have hq7 : b < wr.drew.heap.size := by show b < wr.heap.size; omega
                        have hzw : w.heap.size ≤ wr.drew.heap.size := hB7.size
                        clear hvr hbx hb2
                        replace y0 : wr.drew.cell? ⟨b, off + i * 7, none⟩ = some (.int .i64 l[i].id) := y0
                        replace y1 : wr.drew.cell? ⟨b, off + i * 7 + 1, none⟩ = some (.int .i64 l[i].series) := y1
                        replace y2 : wr.drew.cell? ⟨b, off + i * 7 + 2, none⟩ = some (.string l[i].title) := y2
                        replace y3 : wr.drew.cell? ⟨b, off + i * 7 + 3, none⟩ = some (.int .i64 l[i].opened) := y3
                        replace y4 : wr.drew.cell? ⟨b, off + i * 7 + 4, none⟩ = some (.int .i64 l[i].closed) := y4
                        replace y5 : wr.drew.cell? ⟨b, off + i * 7 + 5, none⟩ = some (.int .i64 l[i].state) := y5
                        replace y6 : wr.drew.cell? ⟨b, off + i * 7 + 6, none⟩ = some (.int .i64 l[i].pages) := y6
                        generalize wr.drew = w7 at *
                        have hLs7 := hv7.ls encFile_len
                        have HLs : Hid (∀ W, Below w7.heap.size w7 W → Ls W W.heap.size encFile 7 (some ⟨g, 0, none⟩) o) := fun W hb => (hLs7.below hb).more hb.size
                        have hlk : (o.take (o.length)).length = o.length := by simp; try omega
                        have HLt : Hid (∀ W, Below w7.heap.size w7 W → Ls W W.heap.size encFile 7 (some ⟨g, 0, none⟩) (o.take (o.length))) := fun W hb => Ls.take_ (HLs.out W hb) _
                        have hkc : o.length ≤ c' := hcapo
                        have HE : Hid ((((([] : List FileD) ++ o.take (o.length)) ++ [l[i]]) ++ ([] : List FileD)) = insC o l[i]) := by unfold Hid insC; rw [HP.out]; simp
                        have HL5 : Hid ((([] : List FileD) ++ o.take (o.length)).length = o.length) := hlk
                        have HK : Hid (∀ W, Below w7.heap.size w7 W → Below w7.heap.size w7 W ∧ W.cell? ⟨b, off + i * 7, none⟩ = some (.int .i64 l[i].id) ∧ W.cell? ⟨b, off + i * 7 + 1, none⟩ = some (.int .i64 l[i].series) ∧ W.cell? ⟨b, off + i * 7 + 2, none⟩ = some (.string l[i].title) ∧ W.cell? ⟨b, off + i * 7 + 3, none⟩ = some (.int .i64 l[i].opened) ∧ W.cell? ⟨b, off + i * 7 + 4, none⟩ = some (.int .i64 l[i].closed) ∧ W.cell? ⟨b, off + i * 7 + 5, none⟩ = some (.int .i64 l[i].state) ∧ W.cell? ⟨b, off + i * 7 + 6, none⟩ = some (.int .i64 l[i].pages)) := fun W hb => ⟨hb, (hb.cell (p := ⟨b, _, none⟩) hq7).trans y0, (hb.cell (p := ⟨b, _, none⟩) hq7).trans y1, (hb.cell (p := ⟨b, _, none⟩) hq7).trans y2, (hb.cell (p := ⟨b, _, none⟩) hq7).trans y3, (hb.cell (p := ⟨b, _, none⟩) hq7).trans y4, (hb.cell (p := ⟨b, _, none⟩) hq7).trans y5, (hb.cell (p := ⟨b, _, none⟩) hq7).trans y6⟩
                        clear y0 y1 y2 y3 y4 y5 y6 hLs7
                        refine wp_region_noPanic ?_
                        refine wp_region_held_drew (S := fun W => Below w7.heap.size w7 W ∧ W.cell? ⟨b, off + i * 7, none⟩ = some (.int .i64 l[i].id) ∧ W.cell? ⟨b, off + i * 7 + 1, none⟩ = some (.int .i64 l[i].series) ∧ W.cell? ⟨b, off + i * 7 + 2, none⟩ = some (.string l[i].title) ∧ W.cell? ⟨b, off + i * 7 + 3, none⟩ = some (.int .i64 l[i].opened) ∧ W.cell? ⟨b, off + i * 7 + 4, none⟩ = some (.int .i64 l[i].closed) ∧ W.cell? ⟨b, off + i * 7 + 5, none⟩ = some (.int .i64 l[i].state) ∧ W.cell? ⟨b, off + i * 7 + 6, none⟩ = some (.int .i64 l[i].pages)) (by kernel_rfl) (HK.out _ (Below.refl _ _).drew) (fun hHeld => ?_)
                        generalize w7.drew = v0 at *
                        refine wpAnyH_take (i := 1) (v := ?v14) rfl (by kernel_rfl) (by kernel_rfl) (by kernel_rfl) (fun _ _ _ h => h) (Or.inl ⟨by rfl, ?hy14⟩) hHeld ?rest14
                        case hy14 => (intro W hSw; (try dsimp only at hSw); go_simp) <;> with_reducible rfl
                        try simp only [Act.put, List.setIfInBounds_toArray, List.set_cons_zero, List.set_cons_succ, List.getElem_toArray, List.getElem_cons_succ, List.getElem_cons_zero]
                        refine wpAnyH_take (i := 2) (v := ?v15) rfl (by kernel_rfl) (by kernel_rfl) (by kernel_rfl) (fun _ _ _ h => h) (Or.inl ⟨by rfl, ?hy15⟩) hHeld ?rest15
                        case hy15 => (intro W hSw; (try dsimp only at hSw); go_simp) <;> with_reducible rfl
                        try simp only [Act.put, List.setIfInBounds_toArray, List.set_cons_zero, List.set_cons_succ, List.getElem_toArray, List.getElem_cons_succ, List.getElem_cons_zero]
                        refine wpAnyH_take (i := 3) (v := ?v16) rfl (by kernel_rfl) (by kernel_rfl) (by kernel_rfl) (fun _ _ _ h => h) (Or.inl ⟨by rfl, ?hy16⟩) hHeld ?rest16
                        case hy16 => (intro W hSw; (try dsimp only at hSw); go_simp) <;> with_reducible rfl
                        try simp only [Act.put, List.setIfInBounds_toArray, List.set_cons_zero, List.set_cons_succ, List.getElem_toArray, List.getElem_cons_succ, List.getElem_cons_zero]
                        refine wpAnyH_take (i := 5) (v := ?v17) rfl (by kernel_rfl) (by kernel_rfl) (by kernel_rfl) (fun _ _ _ h => h) (Or.inl ⟨by rfl, ?hy17⟩) hHeld ?rest17
                        case hy17 => (intro W hSw; (try dsimp only at hSw); go_simp) <;> with_reducible rfl
                        try simp only [Act.put, List.setIfInBounds_toArray, List.set_cons_zero, List.set_cons_succ, List.getElem_toArray, List.getElem_cons_succ, List.getElem_cons_zero]
                        refine wpAnyH_take (i := 6) (v := ?v18) rfl (by kernel_rfl) (by kernel_rfl) (by kernel_rfl) (fun _ _ _ h => h) (Or.inl ⟨by rfl, ?hy18⟩) hHeld ?rest18
                        case hy18 => (intro W hSw; (try dsimp only at hSw); go_simp) <;> with_reducible rfl
                        try simp only [Act.put, List.setIfInBounds_toArray, List.set_cons_zero, List.set_cons_succ, List.getElem_toArray, List.getElem_cons_succ, List.getElem_cons_zero]
                        refine wpAnyH_take (i := 7) (v := ?v19) rfl (by kernel_rfl) (by kernel_rfl) (by kernel_rfl) (fun _ _ _ h => h) (Or.inl ⟨by rfl, ?hy19⟩) hHeld ?rest19
                        case hy19 => (intro W hSw; (try dsimp only at hSw); go_simp) <;> with_reducible rfl
                        try simp only [Act.put, List.setIfInBounds_toArray, List.set_cons_zero, List.set_cons_succ, List.getElem_toArray, List.getElem_cons_succ, List.getElem_cons_zero]
                        refine wpAnyH_take (i := 8) (v := ?v20) rfl (by kernel_rfl) (by kernel_rfl) (by kernel_rfl) (fun _ _ _ h => h) (Or.inl ⟨by rfl, ?hy20⟩) hHeld ?rest20
                        case hy20 => (intro W hSw; (try dsimp only at hSw); go_simp) <;> with_reducible rfl
                        try simp only [Act.put, List.setIfInBounds_toArray, List.set_cons_zero, List.set_cons_succ, List.getElem_toArray, List.getElem_cons_succ, List.getElem_cons_zero]
                        refine wpAnyH_take (i := 11) (v := ?v21) rfl (by kernel_rfl) (by kernel_rfl) (by kernel_rfl) (fun _ _ _ h => h) (Or.inl ⟨by rfl, ?hy21⟩) hHeld ?rest21
                        case hy21 => (intro W hSw; (try dsimp only at hSw); go_simp) <;> with_reducible rfl
                        try simp only [Act.put, List.setIfInBounds_toArray, List.set_cons_zero, List.set_cons_succ, List.getElem_toArray, List.getElem_cons_succ, List.getElem_cons_zero]
                        refine wpAnyH_take (i := 12) (v := ?v22) rfl (by kernel_rfl) (by kernel_rfl) (by kernel_rfl) (fun _ _ _ h => h) (Or.inl ⟨by rfl, ?hy22⟩) hHeld ?rest22
                        case hy22 => (intro W hSw; (try dsimp only at hSw); go_simp) <;> with_reducible rfl
                        try simp only [Act.put, List.setIfInBounds_toArray, List.set_cons_zero, List.set_cons_succ, List.getElem_toArray, List.getElem_cons_succ, List.getElem_cons_zero]
                        refine wpAnyH_take (i := 13) (v := ?v23) rfl (by kernel_rfl) (by kernel_rfl) (by kernel_rfl) (fun _ _ _ h => h) (Or.inl ⟨by rfl, ?hy23⟩) hHeld ?rest23
                        case hy23 => (intro W hSw; (try dsimp only at hSw); go_simp) <;> with_reducible rfl
                        try simp only [Act.put, List.setIfInBounds_toArray, List.set_cons_zero, List.set_cons_succ, List.getElem_toArray, List.getElem_cons_succ, List.getElem_cons_zero]
                        refine wpAnyH_ready (rs := [0, 9]) (by kernel_rfl) (by simp) ?_
                        refine AllReadyH.cons rfl (fun K hK => ?_) (AllReadyH.cons rfl (fun K hK => ?_) AllReadyH.nil)
                        · go_simp
                          refine hK.out _ _ (HK.out _ (Below.alloc hHeld.1 hHeld.1.size _)) (fun hH2 => ?_)
                          have hzN0 : w7.heap.size ≤ v0.heap.size := hHeld.1.size
                          clear hK K hHeld
                          have hHeld := hH2
                          clear hH2
                          have b0 : Blk (v0.alloc (.cells #[] 47)) v0.heap.size 47 #[] := Blk.new v0 47 #[]
                          generalize (v0.alloc (.cells #[] 47)) = v1 at *
                          generalize v0.heap.size = N0 at *
                          try simp only [Act.put, List.setIfInBounds_toArray, List.set_cons_zero, List.set_cons_succ, List.getElem_toArray, List.getElem_cons_succ, List.getElem_cons_zero]
                          refine wpAnyH_ready (rs := [4, 9]) (by kernel_rfl) (by simp) ?_
                          refine AllReadyH.cons rfl (fun K hK => ?_) (AllReadyH.cons rfl (fun K hK => ?_) AllReadyH.nil)
                          · refine step_appN (base := w7.heap.size) rfl (.tmp 73) (.tmp 76) 27 rfl 47 (.agg #[.int .i64 0, .int .i64 0, .string ⟨#[]⟩, .int .i64 0, .int .i64 0, .int .i64 0, .int .i64 0]) 7 64 Tryd.underlying27 (by kernel_rfl) rfl (by omega) encFile_len one_file _ 0 0 ([] : List FileD) rfl rfl (Vec.empty_at (base := w7.heap.size) b0 hzN0) (some ⟨g, 0, none⟩) c' _ (o.length) (o.take (o.length)) hlk rfl (HLt.out _ hHeld.1) (by unfold maxLen; omega) (by omega) hHeld.1.size (o.length) (by omega) ?_
                            intro A5 c5 v2 hv5 hw5
                            have hwi := hw5.below (B := w7.heap.size) hHeld.1.size (fun q hq => by obtain ⟨_, hx⟩ := hq; cases hx; exact hzN0)
                            refine hK.out _ _ (HK.out _ (hHeld.1.trans hwi)) (fun hH2 => ?_)
                            clear hK K hHeld
                            have hHeld := hH2
                            clear hH2
                            clear hwi
                            try simp only [Act.put, List.setIfInBounds_toArray, List.set_cons_zero, List.set_cons_succ, List.getElem_toArray, List.getElem_cons_succ, List.getElem_cons_zero]
                            refine wpAnyH_ready (rs := [9]) (by kernel_rfl) (by simp) ?_
                            refine AllReadyH.cons rfl (fun K hK => ?_) AllReadyH.nil
                            go_simp
                            refine hK.out _ _ (HK.out _ (Below.alloc hHeld.1 hHeld.1.size _)) (fun hH2 => ?_)
                            have hzN1 : w7.heap.size ≤ v2.heap.size := hHeld.1.size
                            clear hK K hHeld
                            have hHeld := hH2
                            clear hH2
                            replace hv5 := hv5.alloc (.cells #[.int .i64 l[i].id, .int .i64 l[i].series, .string l[i].title, .int .i64 l[i].opened, .int .i64 l[i].closed, .int .i64 l[i].state, .int .i64 l[i].pages] 47)
                            have b1 : Blk (v2.alloc (.cells #[.int .i64 l[i].id, .int .i64 l[i].series, .string l[i].title, .int .i64 l[i].opened, .int .i64 l[i].closed, .int .i64 l[i].state, .int .i64 l[i].pages] 47)) v2.heap.size 47 #[.int .i64 l[i].id, .int .i64 l[i].series, .string l[i].title, .int .i64 l[i].opened, .int .i64 l[i].closed, .int .i64 l[i].state, .int .i64 l[i].pages] := Blk.new v2 47 #[.int .i64 l[i].id, .int .i64 l[i].series, .string l[i].title, .int .i64 l[i].opened, .int .i64 l[i].closed, .int .i64 l[i].state, .int .i64 l[i].pages]
                            generalize (v2.alloc (.cells #[.int .i64 l[i].id, .int .i64 l[i].series, .string l[i].title, .int .i64 l[i].opened, .int .i64 l[i].closed, .int .i64 l[i].state, .int .i64 l[i].pages] 47)) = v3 at *
                            generalize v2.heap.size = N1 at *
                            try simp only [Act.put, List.setIfInBounds_toArray, List.set_cons_zero, List.set_cons_succ, List.getElem_toArray, List.getElem_cons_succ, List.getElem_cons_zero]
                            refine wpAnyH_ready (rs := [10]) (by kernel_rfl) (by simp) ?_
                            refine AllReadyH.cons rfl (fun K hK => ?_) AllReadyH.nil
                            refine step_appN (base := w7.heap.size) rfl (.tmp 77) (.tmp 82) 27 rfl 47 (.agg #[.int .i64 0, .int .i64 0, .string ⟨#[]⟩, .int .i64 0, .int .i64 0, .int .i64 0, .int .i64 0]) 7 64 Tryd.underlying27 (by kernel_rfl) rfl (by omega) encFile_len one_file A5 c5 (o.length) (([] : List FileD) ++ o.take (o.length)) HL5.out rfl hv5 _ 1 _ 1 [l[i]] rfl rfl (Ls.blkc b1 rfl) (by unfold maxLen; omega) (by omega) hHeld.1.size (o.length + 1) (by omega) ?_
                            intro A6 c6 v4 hv6 hw6
                            have hwi := hw6.below (B := w7.heap.size) hHeld.1.size (fun q hq => (hv5.block hq).1)
                            refine hK.out _ _ (HK.out _ (hHeld.1.trans hwi)) (fun hH2 => ?_)
                            clear hK K hHeld
                            have hHeld := hH2
                            clear hH2
                            clear hwi
                            try simp only [Act.put, List.setIfInBounds_toArray, List.set_cons_zero, List.set_cons_succ, List.getElem_toArray, List.getElem_cons_succ, List.getElem_cons_zero]
                            refine wpAnyH_ready (rs := [14]) (by kernel_rfl) (by simp) ?_
                            refine AllReadyH.cons rfl (fun K hK => ?_) AllReadyH.nil
                            refine step_appN (base := w7.heap.size) rfl (.tmp 83) (.tmp 86) 27 rfl 47 (.agg #[.int .i64 0, .int .i64 0, .string ⟨#[]⟩, .int .i64 0, .int .i64 0, .int .i64 0, .int .i64 0]) 7 64 Tryd.underlying27 (by kernel_rfl) rfl (by omega) encFile_len one_file A6 c6 (o.length + 1) ((([] : List FileD) ++ o.take (o.length)) ++ [l[i]]) (by rw [List.length_append, HL5.out]; rfl) rfl hv6 _ _ 0 0 ([] : List FileD) rfl rfl (Ls.none_ (A := _) (B := 0)) (by unfold maxLen; omega) (by omega) hHeld.1.size (o.length + 1) (by omega) ?_
                            intro A9 c9 v5 hv9 hw7
                            have hwi := hw7.below (B := w7.heap.size) hHeld.1.size (fun q hq => (hv6.block hq).1)
                            refine hK.out _ _ (HK.out _ (hHeld.1.trans hwi)) (fun hH2 => ?_)
                            clear hK K hHeld
                            have hHeld := hH2
                            clear hH2
                            clear hwi
                            try simp only [Act.put, List.setIfInBounds_toArray, List.set_cons_zero, List.set_cons_succ, List.getElem_toArray, List.getElem_cons_succ, List.getElem_cons_zero]
                            refine wpAnyH_take (i := 15) (v := ?v24) rfl (by kernel_rfl) (by kernel_rfl) (by kernel_rfl) (fun _ _ _ h => h) (Or.inl ⟨by rfl, ?hy24⟩) hHeld ?rest24
                            case hy24 => (intro W hSw; (try dsimp only at hSw); go_simp) <;> with_reducible rfl
                            try simp only [Act.put, List.setIfInBounds_toArray, List.set_cons_zero, List.set_cons_succ, List.getElem_toArray, List.getElem_cons_succ, List.getElem_cons_zero]
                            refine wpAnyH_done (by kernel_rfl) ?_ _
                            refine NoPanic.normal ?_
                            have hB9 := hB7.trans (hHeld.1.mono hzw)
                            have hmv9 := hmv7.below hHeld.1 (Nat.le_refl _)
                            rw [HE.out] at hv9
                            go_wp2_with fail
                            go_roundw
                            case rel => exact ⟨i + 1, A9, c9, by omega, by go_num, by rw [HI.out, insC_len], by rw [HI.out, insC_len]; exact hv9.mono hzw, hB9, hmv9⟩
                            case measure => simp [intOf]; omega
                          · go_simp
                            refine hK.out _ _ (HK.out _ (Below.alloc hHeld.1 hHeld.1.size _)) (fun hH2 => ?_)
                            have hzN1 : w7.heap.size ≤ v1.heap.size := hHeld.1.size
                            clear hK K hHeld
                            have hHeld := hH2
                            clear hH2
                            have lt_N0_N1 : N0 < v1.heap.size := b0.lt
                            replace b0 := b0.alloc (.cells #[.int .i64 l[i].id, .int .i64 l[i].series, .string l[i].title, .int .i64 l[i].opened, .int .i64 l[i].closed, .int .i64 l[i].state, .int .i64 l[i].pages] 47)
                            have b1 : Blk (v1.alloc (.cells #[.int .i64 l[i].id, .int .i64 l[i].series, .string l[i].title, .int .i64 l[i].opened, .int .i64 l[i].closed, .int .i64 l[i].state, .int .i64 l[i].pages] 47)) v1.heap.size 47 #[.int .i64 l[i].id, .int .i64 l[i].series, .string l[i].title, .int .i64 l[i].opened, .int .i64 l[i].closed, .int .i64 l[i].state, .int .i64 l[i].pages] := Blk.new v1 47 #[.int .i64 l[i].id, .int .i64 l[i].series, .string l[i].title, .int .i64 l[i].opened, .int .i64 l[i].closed, .int .i64 l[i].state, .int .i64 l[i].pages]
                            generalize (v1.alloc (.cells #[.int .i64 l[i].id, .int .i64 l[i].series, .string l[i].title, .int .i64 l[i].opened, .int .i64 l[i].closed, .int .i64 l[i].state, .int .i64 l[i].pages] 47)) = v6 at *
                            generalize v1.heap.size = N1 at *
                            try simp only [Act.put, List.setIfInBounds_toArray, List.set_cons_zero, List.set_cons_succ, List.getElem_toArray, List.getElem_cons_succ, List.getElem_cons_zero]
                            refine wpAnyH_ready (rs := [4]) (by kernel_rfl) (by simp) ?_
                            refine AllReadyH.cons rfl (fun K hK => ?_) AllReadyH.nil
                            refine step_appN (base := w7.heap.size) rfl (.tmp 73) (.tmp 76) 27 rfl 47 (.agg #[.int .i64 0, .int .i64 0, .string ⟨#[]⟩, .int .i64 0, .int .i64 0, .int .i64 0, .int .i64 0]) 7 64 Tryd.underlying27 (by kernel_rfl) rfl (by omega) encFile_len one_file _ 0 0 ([] : List FileD) rfl rfl (Vec.empty_at (base := w7.heap.size) b0 hzN0) (some ⟨g, 0, none⟩) c' _ (o.length) (o.take (o.length)) hlk rfl (HLt.out _ hHeld.1) (by unfold maxLen; omega) (by omega) hHeld.1.size (o.length) (by omega) ?_
                            intro A5 c5 v7 hv5 hw5
                            have hwi := hw5.below (B := w7.heap.size) hHeld.1.size (fun q hq => by obtain ⟨_, hx⟩ := hq; cases hx; exact hzN0)
                            replace b1 := b1.wr hw5 (fun hq => by obtain ⟨_, hx⟩ := hq; cases hx; omega)
                            refine hK.out _ _ (HK.out _ (hHeld.1.trans hwi)) (fun hH2 => ?_)
                            clear hK K hHeld
                            have hHeld := hH2
                            clear hH2
                            clear hwi
                            try simp only [Act.put, List.setIfInBounds_toArray, List.set_cons_zero, List.set_cons_succ, List.getElem_toArray, List.getElem_cons_succ, List.getElem_cons_zero]
                            refine wpAnyH_ready (rs := [10]) (by kernel_rfl) (by simp) ?_
                            refine AllReadyH.cons rfl (fun K hK => ?_) AllReadyH.nil
                            refine step_appN (base := w7.heap.size) rfl (.tmp 77) (.tmp 82) 27 rfl 47 (.agg #[.int .i64 0, .int .i64 0, .string ⟨#[]⟩, .int .i64 0, .int .i64 0, .int .i64 0, .int .i64 0]) 7 64 Tryd.underlying27 (by kernel_rfl) rfl (by omega) encFile_len one_file A5 c5 (o.length) (([] : List FileD) ++ o.take (o.length)) HL5.out rfl hv5 _ 1 _ 1 [l[i]] rfl rfl (Ls.blkc b1 rfl) (by unfold maxLen; omega) (by omega) hHeld.1.size (o.length + 1) (by omega) ?_
                            intro A6 c6 v8 hv6 hw6
                            have hwi := hw6.below (B := w7.heap.size) hHeld.1.size (fun q hq => (hv5.block hq).1)
                            refine hK.out _ _ (HK.out _ (hHeld.1.trans hwi)) (fun hH2 => ?_)
                            clear hK K hHeld
                            have hHeld := hH2
                            clear hH2
                            clear hwi
                            try simp only [Act.put, List.setIfInBounds_toArray, List.set_cons_zero, List.set_cons_succ, List.getElem_toArray, List.getElem_cons_succ, List.getElem_cons_zero]
                            refine wpAnyH_ready (rs := [14]) (by kernel_rfl) (by simp) ?_
                            refine AllReadyH.cons rfl (fun K hK => ?_) AllReadyH.nil
                            refine step_appN (base := w7.heap.size) rfl (.tmp 83) (.tmp 86) 27 rfl 47 (.agg #[.int .i64 0, .int .i64 0, .string ⟨#[]⟩, .int .i64 0, .int .i64 0, .int .i64 0, .int .i64 0]) 7 64 Tryd.underlying27 (by kernel_rfl) rfl (by omega) encFile_len one_file A6 c6 (o.length + 1) ((([] : List FileD) ++ o.take (o.length)) ++ [l[i]]) (by rw [List.length_append, HL5.out]; rfl) rfl hv6 _ _ 0 0 ([] : List FileD) rfl rfl (Ls.none_ (A := _) (B := 0)) (by unfold maxLen; omega) (by omega) hHeld.1.size (o.length + 1) (by omega) ?_
                            intro A9 c9 v9 hv9 hw7
                            have hwi := hw7.below (B := w7.heap.size) hHeld.1.size (fun q hq => (hv6.block hq).1)
                            refine hK.out _ _ (HK.out _ (hHeld.1.trans hwi)) (fun hH2 => ?_)
                            clear hK K hHeld
                            have hHeld := hH2
                            clear hH2
                            clear hwi
                            try simp only [Act.put, List.setIfInBounds_toArray, List.set_cons_zero, List.set_cons_succ, List.getElem_toArray, List.getElem_cons_succ, List.getElem_cons_zero]
                            refine wpAnyH_take (i := 15) (v := ?v25) rfl (by kernel_rfl) (by kernel_rfl) (by kernel_rfl) (fun _ _ _ h => h) (Or.inl ⟨by rfl, ?hy25⟩) hHeld ?rest25
                            case hy25 => (intro W hSw; (try dsimp only at hSw); go_simp) <;> with_reducible rfl
                            try simp only [Act.put, List.setIfInBounds_toArray, List.set_cons_zero, List.set_cons_succ, List.getElem_toArray, List.getElem_cons_succ, List.getElem_cons_zero]
                            refine wpAnyH_done (by kernel_rfl) ?_ _
                            refine NoPanic.normal ?_
                            have hB9 := hB7.trans (hHeld.1.mono hzw)
                            have hmv9 := hmv7.below hHeld.1 (Nat.le_refl _)
                            rw [HE.out] at hv9
                            go_wp2_with fail
                            go_roundw
                            case rel => exact ⟨i + 1, A9, c9, by omega, by go_num, by rw [HI.out, insC_len], by rw [HI.out, insC_len]; exact hv9.mono hzw, hB9, hmv9⟩
                            case measure => simp [intOf]; omega
                        · go_simp
                          refine hK.out _ _ (HK.out _ (Below.alloc hHeld.1 hHeld.1.size _)) (fun hH2 => ?_)
                          have hzN1 : w7.heap.size ≤ v0.heap.size := hHeld.1.size
                          clear hK K hHeld
                          have hHeld := hH2
                          clear hH2
                          have b1 : Blk (v0.alloc (.cells #[.int .i64 l[i].id, .int .i64 l[i].series, .string l[i].title, .int .i64 l[i].opened, .int .i64 l[i].closed, .int .i64 l[i].state, .int .i64 l[i].pages] 47)) v0.heap.size 47 #[.int .i64 l[i].id, .int .i64 l[i].series, .string l[i].title, .int .i64 l[i].opened, .int .i64 l[i].closed, .int .i64 l[i].state, .int .i64 l[i].pages] := Blk.new v0 47 #[.int .i64 l[i].id, .int .i64 l[i].series, .string l[i].title, .int .i64 l[i].opened, .int .i64 l[i].closed, .int .i64 l[i].state, .int .i64 l[i].pages]
                          generalize (v0.alloc (.cells #[.int .i64 l[i].id, .int .i64 l[i].series, .string l[i].title, .int .i64 l[i].opened, .int .i64 l[i].closed, .int .i64 l[i].state, .int .i64 l[i].pages] 47)) = v10 at *
                          generalize v0.heap.size = N1 at *
                          try simp only [Act.put, List.setIfInBounds_toArray, List.set_cons_zero, List.set_cons_succ, List.getElem_toArray, List.getElem_cons_succ, List.getElem_cons_zero]
                          refine wpAnyH_ready (rs := [0]) (by kernel_rfl) (by simp) ?_
                          refine AllReadyH.cons rfl (fun K hK => ?_) AllReadyH.nil
                          go_simp
                          refine hK.out _ _ (HK.out _ (Below.alloc hHeld.1 hHeld.1.size _)) (fun hH2 => ?_)
                          have hzN0 : w7.heap.size ≤ v10.heap.size := hHeld.1.size
                          clear hK K hHeld
                          have hHeld := hH2
                          clear hH2
                          have lt_N1_N0 : N1 < v10.heap.size := b1.lt
                          replace b1 := b1.alloc (.cells #[] 47)
                          have b0 : Blk (v10.alloc (.cells #[] 47)) v10.heap.size 47 #[] := Blk.new v10 47 #[]
                          generalize (v10.alloc (.cells #[] 47)) = v11 at *
                          generalize v10.heap.size = N0 at *
                          try simp only [Act.put, List.setIfInBounds_toArray, List.set_cons_zero, List.set_cons_succ, List.getElem_toArray, List.getElem_cons_succ, List.getElem_cons_zero]
                          refine wpAnyH_ready (rs := [4]) (by kernel_rfl) (by simp) ?_
                          refine AllReadyH.cons rfl (fun K hK => ?_) AllReadyH.nil
                          refine step_appN (base := w7.heap.size) rfl (.tmp 73) (.tmp 76) 27 rfl 47 (.agg #[.int .i64 0, .int .i64 0, .string ⟨#[]⟩, .int .i64 0, .int .i64 0, .int .i64 0, .int .i64 0]) 7 64 Tryd.underlying27 (by kernel_rfl) rfl (by omega) encFile_len one_file _ 0 0 ([] : List FileD) rfl rfl (Vec.empty_at (base := w7.heap.size) b0 hzN0) (some ⟨g, 0, none⟩) c' _ (o.length) (o.take (o.length)) hlk rfl (HLt.out _ hHeld.1) (by unfold maxLen; omega) (by omega) hHeld.1.size (o.length) (by omega) ?_
                          intro A5 c5 v12 hv5 hw5
                          have hwi := hw5.below (B := w7.heap.size) hHeld.1.size (fun q hq => by obtain ⟨_, hx⟩ := hq; cases hx; exact hzN0)
                          replace b1 := b1.wr hw5 (fun hq => by obtain ⟨_, hx⟩ := hq; cases hx; omega)
                          refine hK.out _ _ (HK.out _ (hHeld.1.trans hwi)) (fun hH2 => ?_)
                          clear hK K hHeld
                          have hHeld := hH2
                          clear hH2
                          clear hwi
                          try simp only [Act.put, List.setIfInBounds_toArray, List.set_cons_zero, List.set_cons_succ, List.getElem_toArray, List.getElem_cons_succ, List.getElem_cons_zero]
                          refine wpAnyH_ready (rs := [10]) (by kernel_rfl) (by simp) ?_
                          refine AllReadyH.cons rfl (fun K hK => ?_) AllReadyH.nil
                          refine step_appN (base := w7.heap.size) rfl (.tmp 77) (.tmp 82) 27 rfl 47 (.agg #[.int .i64 0, .int .i64 0, .string ⟨#[]⟩, .int .i64 0, .int .i64 0, .int .i64 0, .int .i64 0]) 7 64 Tryd.underlying27 (by kernel_rfl) rfl (by omega) encFile_len one_file A5 c5 (o.length) (([] : List FileD) ++ o.take (o.length)) HL5.out rfl hv5 _ 1 _ 1 [l[i]] rfl rfl (Ls.blkc b1 rfl) (by unfold maxLen; omega) (by omega) hHeld.1.size (o.length + 1) (by omega) ?_
                          intro A6 c6 v13 hv6 hw6
                          have hwi := hw6.below (B := w7.heap.size) hHeld.1.size (fun q hq => (hv5.block hq).1)
                          refine hK.out _ _ (HK.out _ (hHeld.1.trans hwi)) (fun hH2 => ?_)
                          clear hK K hHeld
                          have hHeld := hH2
                          clear hH2
                          clear hwi
                          try simp only [Act.put, List.setIfInBounds_toArray, List.set_cons_zero, List.set_cons_succ, List.getElem_toArray, List.getElem_cons_succ, List.getElem_cons_zero]
                          refine wpAnyH_ready (rs := [14]) (by kernel_rfl) (by simp) ?_
                          refine AllReadyH.cons rfl (fun K hK => ?_) AllReadyH.nil
                          refine step_appN (base := w7.heap.size) rfl (.tmp 83) (.tmp 86) 27 rfl 47 (.agg #[.int .i64 0, .int .i64 0, .string ⟨#[]⟩, .int .i64 0, .int .i64 0, .int .i64 0, .int .i64 0]) 7 64 Tryd.underlying27 (by kernel_rfl) rfl (by omega) encFile_len one_file A6 c6 (o.length + 1) ((([] : List FileD) ++ o.take (o.length)) ++ [l[i]]) (by rw [List.length_append, HL5.out]; rfl) rfl hv6 _ _ 0 0 ([] : List FileD) rfl rfl (Ls.none_ (A := _) (B := 0)) (by unfold maxLen; omega) (by omega) hHeld.1.size (o.length + 1) (by omega) ?_
                          intro A9 c9 v14 hv9 hw7
                          have hwi := hw7.below (B := w7.heap.size) hHeld.1.size (fun q hq => (hv6.block hq).1)
                          refine hK.out _ _ (HK.out _ (hHeld.1.trans hwi)) (fun hH2 => ?_)
                          clear hK K hHeld
                          have hHeld := hH2
                          clear hH2
                          clear hwi
                          try simp only [Act.put, List.setIfInBounds_toArray, List.set_cons_zero, List.set_cons_succ, List.getElem_toArray, List.getElem_cons_succ, List.getElem_cons_zero]
                          refine wpAnyH_take (i := 15) (v := ?v26) rfl (by kernel_rfl) (by kernel_rfl) (by kernel_rfl) (fun _ _ _ h => h) (Or.inl ⟨by rfl, ?hy26⟩) hHeld ?rest26
                          case hy26 => (intro W hSw; (try dsimp only at hSw); go_simp) <;> with_reducible rfl
                          try simp only [Act.put, List.setIfInBounds_toArray, List.set_cons_zero, List.set_cons_succ, List.getElem_toArray, List.getElem_cons_succ, List.getElem_cons_zero]
                          refine wpAnyH_done (by kernel_rfl) ?_ _
                          refine NoPanic.normal ?_
                          have hB9 := hB7.trans (hHeld.1.mono hzw)
                          have hmv9 := hmv7.below hHeld.1 (Nat.le_refl _)
                          rw [HE.out] at hv9
                          go_wp2_with fail
                          go_roundw
                          case rel => exact ⟨i + 1, A9, c9, by omega, by go_num, by rw [HI.out, insC_len], by rw [HI.out, insC_len]; exact hv9.mono hzw, hB9, hmv9⟩
                          case measure => simp [intOf]; omega
                    · have Hq2 := Lib.hid hq2
                      go_wp2_with fail
                      go_big_region
                      go_wp2_with fail
                      go_roundw
                      case rel => exact ⟨j - 1, by omega, by go_num, hb2.drew, fun t ht h => by rcases Nat.lt_or_eq_of_le h with h9 | rfl; exact HB.out t ht (by omega); have h8 := Hq2.out; simpa using h8⟩
                      case measure => simp [intOf]; omega
                  · have hji : ¬ (0 : Int) < (j : Int) := by omega
                    have HP := Lib.hid (plcC_at j hj (fun t ht h => HB.out t ht h) (fun h => absurd h hj0))
                    go_wp2_with fail
                    go_big_region
                    go_wp2_with fail
                    by_cases hfull : j < o.length
                    · have hcapo2 := hcapo
                      obtain ⟨g, rfl⟩ := hvr.some (by omega)
                      have hv7 := (hvr.drew)
                      have hmv7 := (hmv.on hb2).drew
                      clear hmv
                      have hB7 : Below w.heap.size w wr.drew := (hbx.trans (hb2.mono hbx.size)).drew
                      have hq7 : b < wr.drew.heap.size := by show b < wr.heap.size; omega
                      have hzw : w.heap.size ≤ wr.drew.heap.size := hB7.size
                      clear hvr hbx hb2
                      replace y0 : wr.drew.cell? ⟨b, off + i * 7, none⟩ = some (.int .i64 l[i].id) := y0
                      replace y1 : wr.drew.cell? ⟨b, off + i * 7 + 1, none⟩ = some (.int .i64 l[i].series) := y1
                      replace y2 : wr.drew.cell? ⟨b, off + i * 7 + 2, none⟩ = some (.string l[i].title) := y2
                      replace y3 : wr.drew.cell? ⟨b, off + i * 7 + 3, none⟩ = some (.int .i64 l[i].opened) := y3
                      replace y4 : wr.drew.cell? ⟨b, off + i * 7 + 4, none⟩ = some (.int .i64 l[i].closed) := y4
                      replace y5 : wr.drew.cell? ⟨b, off + i * 7 + 5, none⟩ = some (.int .i64 l[i].state) := y5
                      replace y6 : wr.drew.cell? ⟨b, off + i * 7 + 6, none⟩ = some (.int .i64 l[i].pages) := y6
                      generalize wr.drew = w7 at *
                      have hLs7 := hv7.ls encFile_len
                      have HLs : Hid (∀ W, Below w7.heap.size w7 W → Ls W W.heap.size encFile 7 (some ⟨g, 0, none⟩) o) := fun W hb => (hLs7.below hb).more hb.size
                      have hlk : (o.take (j)).length = j := by simp; try omega
                      have HLt : Hid (∀ W, Below w7.heap.size w7 W → Ls W W.heap.size encFile 7 (some ⟨g, 0, none⟩) (o.take (j))) := fun W hb => Ls.take_ (HLs.out W hb) _
                      have hld : (o.drop j).length = o.length - j := List.length_drop
                      have hkc : j ≤ c' := by omega
                      have hkc2 : ¬ c' = j := by omega
                      have HLdd : Hid (∀ W, Below w7.heap.size w7 W → Ls W W.heap.size encFile 7 (some ⟨g, j * 7, none⟩) (o.drop j)) := fun W hb => by
                        have h := Ls.drop_ (HLs.out W hb) j (by omega)
                        rwa [Nat.zero_add] at h
                      have HE : Hid ((((([] : List FileD) ++ o.take (j)) ++ [l[i]]) ++ (o.drop j)) = insC o l[i]) := by unfold Hid insC; rw [HP.out]; simp
                      have HL5 : Hid ((([] : List FileD) ++ o.take (j)).length = j) := hlk
                      have HK : Hid (∀ W, Below w7.heap.size w7 W → Below w7.heap.size w7 W ∧ W.cell? ⟨b, off + i * 7, none⟩ = some (.int .i64 l[i].id) ∧ W.cell? ⟨b, off + i * 7 + 1, none⟩ = some (.int .i64 l[i].series) ∧ W.cell? ⟨b, off + i * 7 + 2, none⟩ = some (.string l[i].title) ∧ W.cell? ⟨b, off + i * 7 + 3, none⟩ = some (.int .i64 l[i].opened) ∧ W.cell? ⟨b, off + i * 7 + 4, none⟩ = some (.int .i64 l[i].closed) ∧ W.cell? ⟨b, off + i * 7 + 5, none⟩ = some (.int .i64 l[i].state) ∧ W.cell? ⟨b, off + i * 7 + 6, none⟩ = some (.int .i64 l[i].pages)) := fun W hb => ⟨hb, (hb.cell (p := ⟨b, _, none⟩) hq7).trans y0, (hb.cell (p := ⟨b, _, none⟩) hq7).trans y1, (hb.cell (p := ⟨b, _, none⟩) hq7).trans y2, (hb.cell (p := ⟨b, _, none⟩) hq7).trans y3, (hb.cell (p := ⟨b, _, none⟩) hq7).trans y4, (hb.cell (p := ⟨b, _, none⟩) hq7).trans y5, (hb.cell (p := ⟨b, _, none⟩) hq7).trans y6⟩
                      clear y0 y1 y2 y3 y4 y5 y6 hLs7
                      refine wp_region_noPanic ?_
                      refine wp_region_held_drew (S := fun W => Below w7.heap.size w7 W ∧ W.cell? ⟨b, off + i * 7, none⟩ = some (.int .i64 l[i].id) ∧ W.cell? ⟨b, off + i * 7 + 1, none⟩ = some (.int .i64 l[i].series) ∧ W.cell? ⟨b, off + i * 7 + 2, none⟩ = some (.string l[i].title) ∧ W.cell? ⟨b, off + i * 7 + 3, none⟩ = some (.int .i64 l[i].opened) ∧ W.cell? ⟨b, off + i * 7 + 4, none⟩ = some (.int .i64 l[i].closed) ∧ W.cell? ⟨b, off + i * 7 + 5, none⟩ = some (.int .i64 l[i].state) ∧ W.cell? ⟨b, off + i * 7 + 6, none⟩ = some (.int .i64 l[i].pages)) (by kernel_rfl) (HK.out _ (Below.refl _ _).drew) (fun hHeld => ?_)
                      generalize w7.drew = v0 at *
                      refine wpAnyH_take (i := 1) (v := ?v27) rfl (by kernel_rfl) (by kernel_rfl) (by kernel_rfl) (fun _ _ _ h => h) (Or.inl ⟨by rfl, ?hy27⟩) hHeld ?rest27
                      case hy27 => (intro W hSw; (try dsimp only at hSw); go_simp) <;> with_reducible rfl
                      try simp only [Act.put, List.setIfInBounds_toArray, List.set_cons_zero, List.set_cons_succ, List.getElem_toArray, List.getElem_cons_succ, List.getElem_cons_zero]
                      refine wpAnyH_take (i := 2) (v := ?v28) rfl (by kernel_rfl) (by kernel_rfl) (by kernel_rfl) (fun _ _ _ h => h) (Or.inl ⟨by rfl, ?hy28⟩) hHeld ?rest28
                      case hy28 => (intro W hSw; (try dsimp only at hSw); go_simp) <;> with_reducible rfl
                      try simp only [Act.put, List.setIfInBounds_toArray, List.set_cons_zero, List.set_cons_succ, List.getElem_toArray, List.getElem_cons_succ, List.getElem_cons_zero]
                      refine wpAnyH_take (i := 3) (v := ?v29) rfl (by kernel_rfl) (by kernel_rfl) (by kernel_rfl) (fun _ _ _ h => h) (Or.inl ⟨by rfl, ?hy29⟩) hHeld ?rest29
                      case hy29 => (intro W hSw; (try dsimp only at hSw); go_simp) <;> with_reducible rfl
                      try simp only [Act.put, List.setIfInBounds_toArray, List.set_cons_zero, List.set_cons_succ, List.getElem_toArray, List.getElem_cons_succ, List.getElem_cons_zero]
                      refine wpAnyH_take (i := 5) (v := ?v30) rfl (by kernel_rfl) (by kernel_rfl) (by kernel_rfl) (fun _ _ _ h => h) (Or.inl ⟨by rfl, ?hy30⟩) hHeld ?rest30
                      case hy30 => (intro W hSw; (try dsimp only at hSw); go_simp) <;> with_reducible rfl
                      try simp only [Act.put, List.setIfInBounds_toArray, List.set_cons_zero, List.set_cons_succ, List.getElem_toArray, List.getElem_cons_succ, List.getElem_cons_zero]
                      refine wpAnyH_take (i := 6) (v := ?v31) rfl (by kernel_rfl) (by kernel_rfl) (by kernel_rfl) (fun _ _ _ h => h) (Or.inl ⟨by rfl, ?hy31⟩) hHeld ?rest31
                      case hy31 => (intro W hSw; (try dsimp only at hSw); go_simp) <;> with_reducible rfl
                      try simp only [Act.put, List.setIfInBounds_toArray, List.set_cons_zero, List.set_cons_succ, List.getElem_toArray, List.getElem_cons_succ, List.getElem_cons_zero]
                      refine wpAnyH_take (i := 7) (v := ?v32) rfl (by kernel_rfl) (by kernel_rfl) (by kernel_rfl) (fun _ _ _ h => h) (Or.inl ⟨by rfl, ?hy32⟩) hHeld ?rest32
                      case hy32 => (intro W hSw; (try dsimp only at hSw); go_simp) <;> with_reducible rfl
                      try simp only [Act.put, List.setIfInBounds_toArray, List.set_cons_zero, List.set_cons_succ, List.getElem_toArray, List.getElem_cons_succ, List.getElem_cons_zero]
                      refine wpAnyH_take (i := 8) (v := ?v33) rfl (by kernel_rfl) (by kernel_rfl) (by kernel_rfl) (fun _ _ _ h => h) (Or.inl ⟨by rfl, ?hy33⟩) hHeld ?rest33
                      case hy33 => (intro W hSw; (try dsimp only at hSw); go_simp) <;> with_reducible rfl
                      try simp only [Act.put, List.setIfInBounds_toArray, List.set_cons_zero, List.set_cons_succ, List.getElem_toArray, List.getElem_cons_succ, List.getElem_cons_zero]
                      refine wpAnyH_take (i := 11) (v := ?v34) rfl (by kernel_rfl) (by kernel_rfl) (by kernel_rfl) (fun _ _ _ h => h) (Or.inl ⟨by rfl, ?hy34⟩) hHeld ?rest34
                      case hy34 => (intro W hSw; (try dsimp only at hSw); go_simp) <;> with_reducible rfl
                      try simp only [Act.put, List.setIfInBounds_toArray, List.set_cons_zero, List.set_cons_succ, List.getElem_toArray, List.getElem_cons_succ, List.getElem_cons_zero]
                      refine wpAnyH_take (i := 12) (v := ?v35) rfl (by kernel_rfl) (by kernel_rfl) (by kernel_rfl) (fun _ _ _ h => h) (Or.inl ⟨by rfl, ?hy35⟩) hHeld ?rest35
                      case hy35 => (intro W hSw; (try dsimp only at hSw); go_simp) <;> with_reducible rfl
                      try simp only [Act.put, List.setIfInBounds_toArray, List.set_cons_zero, List.set_cons_succ, List.getElem_toArray, List.getElem_cons_succ, List.getElem_cons_zero]
                      refine wpAnyH_take (i := 13) (v := ?v36) rfl (by kernel_rfl) (by kernel_rfl) (by kernel_rfl) (fun _ _ _ h => h) (Or.inl ⟨by rfl, ?hy36⟩) hHeld ?rest36
                      case hy36 => (intro W hSw; (try dsimp only at hSw); go_simp) <;> with_reducible rfl
                      try simp only [Act.put, List.setIfInBounds_toArray, List.set_cons_zero, List.set_cons_succ, List.getElem_toArray, List.getElem_cons_succ, List.getElem_cons_zero]
                      refine wpAnyH_ready (rs := [0, 9]) (by kernel_rfl) (by simp) ?_
                      refine AllReadyH.cons rfl (fun K hK => ?_) (AllReadyH.cons rfl (fun K hK => ?_) AllReadyH.nil)
                      · go_simp
                        refine hK.out _ _ (HK.out _ (Below.alloc hHeld.1 hHeld.1.size _)) (fun hH2 => ?_)
                        have hzN0 : w7.heap.size ≤ v0.heap.size := hHeld.1.size
                        clear hK K hHeld
                        have hHeld := hH2
                        clear hH2
                        have b0 : Blk (v0.alloc (.cells #[] 47)) v0.heap.size 47 #[] := Blk.new v0 47 #[]
                        generalize (v0.alloc (.cells #[] 47)) = v1 at *
                        generalize v0.heap.size = N0 at *
                        try simp only [Act.put, List.setIfInBounds_toArray, List.set_cons_zero, List.set_cons_succ, List.getElem_toArray, List.getElem_cons_succ, List.getElem_cons_zero]
                        refine wpAnyH_ready (rs := [4, 9]) (by kernel_rfl) (by simp) ?_
                        refine AllReadyH.cons rfl (fun K hK => ?_) (AllReadyH.cons rfl (fun K hK => ?_) AllReadyH.nil)
                        · refine step_appN (base := w7.heap.size) rfl (.tmp 73) (.tmp 76) 27 rfl 47 (.agg #[.int .i64 0, .int .i64 0, .string ⟨#[]⟩, .int .i64 0, .int .i64 0, .int .i64 0, .int .i64 0]) 7 64 Tryd.underlying27 (by kernel_rfl) rfl (by omega) encFile_len one_file _ 0 0 ([] : List FileD) rfl rfl (Vec.empty_at (base := w7.heap.size) b0 hzN0) (some ⟨g, 0, none⟩) c' _ (j) (o.take (j)) hlk rfl (HLt.out _ hHeld.1) (by unfold maxLen; omega) (by omega) hHeld.1.size (j) (by omega) ?_
                          intro A5 c5 v2 hv5 hw5
                          have hwi := hw5.below (B := w7.heap.size) hHeld.1.size (fun q hq => by obtain ⟨_, hx⟩ := hq; cases hx; exact hzN0)
                          refine hK.out _ _ (HK.out _ (hHeld.1.trans hwi)) (fun hH2 => ?_)
                          clear hK K hHeld
                          have hHeld := hH2
                          clear hH2
                          clear hwi
                          try simp only [Act.put, List.setIfInBounds_toArray, List.set_cons_zero, List.set_cons_succ, List.getElem_toArray, List.getElem_cons_succ, List.getElem_cons_zero]
                          refine wpAnyH_ready (rs := [9]) (by kernel_rfl) (by simp) ?_
                          refine AllReadyH.cons rfl (fun K hK => ?_) AllReadyH.nil
                          go_simp
                          refine hK.out _ _ (HK.out _ (Below.alloc hHeld.1 hHeld.1.size _)) (fun hH2 => ?_)
                          have hzN1 : w7.heap.size ≤ v2.heap.size := hHeld.1.size
                          clear hK K hHeld
                          have hHeld := hH2
                          clear hH2
                          replace hv5 := hv5.alloc (.cells #[.int .i64 l[i].id, .int .i64 l[i].series, .string l[i].title, .int .i64 l[i].opened, .int .i64 l[i].closed, .int .i64 l[i].state, .int .i64 l[i].pages] 47)
                          have b1 : Blk (v2.alloc (.cells #[.int .i64 l[i].id, .int .i64 l[i].series, .string l[i].title, .int .i64 l[i].opened, .int .i64 l[i].closed, .int .i64 l[i].state, .int .i64 l[i].pages] 47)) v2.heap.size 47 #[.int .i64 l[i].id, .int .i64 l[i].series, .string l[i].title, .int .i64 l[i].opened, .int .i64 l[i].closed, .int .i64 l[i].state, .int .i64 l[i].pages] := Blk.new v2 47 #[.int .i64 l[i].id, .int .i64 l[i].series, .string l[i].title, .int .i64 l[i].opened, .int .i64 l[i].closed, .int .i64 l[i].state, .int .i64 l[i].pages]
                          generalize (v2.alloc (.cells #[.int .i64 l[i].id, .int .i64 l[i].series, .string l[i].title, .int .i64 l[i].opened, .int .i64 l[i].closed, .int .i64 l[i].state, .int .i64 l[i].pages] 47)) = v3 at *
                          generalize v2.heap.size = N1 at *
                          try simp only [Act.put, List.setIfInBounds_toArray, List.set_cons_zero, List.set_cons_succ, List.getElem_toArray, List.getElem_cons_succ, List.getElem_cons_zero]
                          refine wpAnyH_ready (rs := [10]) (by kernel_rfl) (by simp) ?_
                          refine AllReadyH.cons rfl (fun K hK => ?_) AllReadyH.nil
                          refine step_appN (base := w7.heap.size) rfl (.tmp 77) (.tmp 82) 27 rfl 47 (.agg #[.int .i64 0, .int .i64 0, .string ⟨#[]⟩, .int .i64 0, .int .i64 0, .int .i64 0, .int .i64 0]) 7 64 Tryd.underlying27 (by kernel_rfl) rfl (by omega) encFile_len one_file A5 c5 (j) (([] : List FileD) ++ o.take (j)) HL5.out rfl hv5 _ 1 _ 1 [l[i]] rfl rfl (Ls.blkc b1 rfl) (by unfold maxLen; omega) (by omega) hHeld.1.size (j + 1) (by omega) ?_
                          intro A6 c6 v4 hv6 hw6
                          have hwi := hw6.below (B := w7.heap.size) hHeld.1.size (fun q hq => (hv5.block hq).1)
                          refine hK.out _ _ (HK.out _ (hHeld.1.trans hwi)) (fun hH2 => ?_)
                          clear hK K hHeld
                          have hHeld := hH2
                          clear hH2
                          clear hwi
                          try simp only [Act.put, List.setIfInBounds_toArray, List.set_cons_zero, List.set_cons_succ, List.getElem_toArray, List.getElem_cons_succ, List.getElem_cons_zero]
                          refine wpAnyH_ready (rs := [14]) (by kernel_rfl) (by simp) ?_
                          refine AllReadyH.cons rfl (fun K hK => ?_) AllReadyH.nil
                          refine step_appN (base := w7.heap.size) rfl (.tmp 83) (.tmp 86) 27 rfl 47 (.agg #[.int .i64 0, .int .i64 0, .string ⟨#[]⟩, .int .i64 0, .int .i64 0, .int .i64 0, .int .i64 0]) 7 64 Tryd.underlying27 (by kernel_rfl) rfl (by omega) encFile_len one_file A6 c6 (j + 1) ((([] : List FileD) ++ o.take (j)) ++ [l[i]]) (by rw [List.length_append, HL5.out]; rfl) rfl hv6 (some ⟨g, j * 7, none⟩) (c' - j) _ (o.length - j) (o.drop j) hld rfl (HLdd.out _ hHeld.1) (by unfold maxLen; omega) (by omega) hHeld.1.size (o.length + 1) (by omega) ?_
                          intro A9 c9 v5 hv9 hw7
                          have hwi := hw7.below (B := w7.heap.size) hHeld.1.size (fun q hq => (hv6.block hq).1)
                          refine hK.out _ _ (HK.out _ (hHeld.1.trans hwi)) (fun hH2 => ?_)
                          clear hK K hHeld
                          have hHeld := hH2
                          clear hH2
                          clear hwi
                          try simp only [Act.put, List.setIfInBounds_toArray, List.set_cons_zero, List.set_cons_succ, List.getElem_toArray, List.getElem_cons_succ, List.getElem_cons_zero]
                          refine wpAnyH_take (i := 15) (v := ?v37) rfl (by kernel_rfl) (by kernel_rfl) (by kernel_rfl) (fun _ _ _ h => h) (Or.inl ⟨by rfl, ?hy37⟩) hHeld ?rest37
                          case hy37 => (intro W hSw; (try dsimp only at hSw); go_simp) <;> with_reducible rfl
                          try simp only [Act.put, List.setIfInBounds_toArray, List.set_cons_zero, List.set_cons_succ, List.getElem_toArray, List.getElem_cons_succ, List.getElem_cons_zero]
                          refine wpAnyH_done (by kernel_rfl) ?_ _
                          refine NoPanic.normal ?_
                          have hB9 := hB7.trans (hHeld.1.mono hzw)
                          have hmv9 := hmv7.below hHeld.1 (Nat.le_refl _)
                          rw [HE.out] at hv9
                          go_wp2_with fail
                          go_roundw
                          case rel => exact ⟨i + 1, A9, c9, by omega, by go_num, by rw [HI.out, insC_len], by rw [HI.out, insC_len]; exact hv9.mono hzw, hB9, hmv9⟩
                          case measure => simp [intOf]; omega
                        · go_simp
                          refine hK.out _ _ (HK.out _ (Below.alloc hHeld.1 hHeld.1.size _)) (fun hH2 => ?_)
                          have hzN1 : w7.heap.size ≤ v1.heap.size := hHeld.1.size
                          clear hK K hHeld
                          have hHeld := hH2
                          clear hH2
                          have lt_N0_N1 : N0 < v1.heap.size := b0.lt
                          replace b0 := b0.alloc (.cells #[.int .i64 l[i].id, .int .i64 l[i].series, .string l[i].title, .int .i64 l[i].opened, .int .i64 l[i].closed, .int .i64 l[i].state, .int .i64 l[i].pages] 47)
                          have b1 : Blk (v1.alloc (.cells #[.int .i64 l[i].id, .int .i64 l[i].series, .string l[i].title, .int .i64 l[i].opened, .int .i64 l[i].closed, .int .i64 l[i].state, .int .i64 l[i].pages] 47)) v1.heap.size 47 #[.int .i64 l[i].id, .int .i64 l[i].series, .string l[i].title, .int .i64 l[i].opened, .int .i64 l[i].closed, .int .i64 l[i].state, .int .i64 l[i].pages] := Blk.new v1 47 #[.int .i64 l[i].id, .int .i64 l[i].series, .string l[i].title, .int .i64 l[i].opened, .int .i64 l[i].closed, .int .i64 l[i].state, .int .i64 l[i].pages]
                          generalize (v1.alloc (.cells #[.int .i64 l[i].id, .int .i64 l[i].series, .string l[i].title, .int .i64 l[i].opened, .int .i64 l[i].closed, .int .i64 l[i].state, .int .i64 l[i].pages] 47)) = v6 at *
                          generalize v1.heap.size = N1 at *
                          try simp only [Act.put, List.setIfInBounds_toArray, List.set_cons_zero, List.set_cons_succ, List.getElem_toArray, List.getElem_cons_succ, List.getElem_cons_zero]
                          refine wpAnyH_ready (rs := [4]) (by kernel_rfl) (by simp) ?_
                          refine AllReadyH.cons rfl (fun K hK => ?_) AllReadyH.nil
                          refine step_appN (base := w7.heap.size) rfl (.tmp 73) (.tmp 76) 27 rfl 47 (.agg #[.int .i64 0, .int .i64 0, .string ⟨#[]⟩, .int .i64 0, .int .i64 0, .int .i64 0, .int .i64 0]) 7 64 Tryd.underlying27 (by kernel_rfl) rfl (by omega) encFile_len one_file _ 0 0 ([] : List FileD) rfl rfl (Vec.empty_at (base := w7.heap.size) b0 hzN0) (some ⟨g, 0, none⟩) c' _ (j) (o.take (j)) hlk rfl (HLt.out _ hHeld.1) (by unfold maxLen; omega) (by omega) hHeld.1.size (j) (by omega) ?_
                          intro A5 c5 v7 hv5 hw5
                          have hwi := hw5.below (B := w7.heap.size) hHeld.1.size (fun q hq => by obtain ⟨_, hx⟩ := hq; cases hx; exact hzN0)
                          replace b1 := b1.wr hw5 (fun hq => by obtain ⟨_, hx⟩ := hq; cases hx; omega)
                          refine hK.out _ _ (HK.out _ (hHeld.1.trans hwi)) (fun hH2 => ?_)
                          clear hK K hHeld
                          have hHeld := hH2
                          clear hH2
                          clear hwi
                          try simp only [Act.put, List.setIfInBounds_toArray, List.set_cons_zero, List.set_cons_succ, List.getElem_toArray, List.getElem_cons_succ, List.getElem_cons_zero]
                          refine wpAnyH_ready (rs := [10]) (by kernel_rfl) (by simp) ?_
                          refine AllReadyH.cons rfl (fun K hK => ?_) AllReadyH.nil
                          refine step_appN (base := w7.heap.size) rfl (.tmp 77) (.tmp 82) 27 rfl 47 (.agg #[.int .i64 0, .int .i64 0, .string ⟨#[]⟩, .int .i64 0, .int .i64 0, .int .i64 0, .int .i64 0]) 7 64 Tryd.underlying27 (by kernel_rfl) rfl (by omega) encFile_len one_file A5 c5 (j) (([] : List FileD) ++ o.take (j)) HL5.out rfl hv5 _ 1 _ 1 [l[i]] rfl rfl (Ls.blkc b1 rfl) (by unfold maxLen; omega) (by omega) hHeld.1.size (j + 1) (by omega) ?_
                          intro A6 c6 v8 hv6 hw6
                          have hwi := hw6.below (B := w7.heap.size) hHeld.1.size (fun q hq => (hv5.block hq).1)
                          refine hK.out _ _ (HK.out _ (hHeld.1.trans hwi)) (fun hH2 => ?_)
                          clear hK K hHeld
                          have hHeld := hH2
                          clear hH2
                          clear hwi
                          try simp only [Act.put, List.setIfInBounds_toArray, List.set_cons_zero, List.set_cons_succ, List.getElem_toArray, List.getElem_cons_succ, List.getElem_cons_zero]
                          refine wpAnyH_ready (rs := [14]) (by kernel_rfl) (by simp) ?_
                          refine AllReadyH.cons rfl (fun K hK => ?_) AllReadyH.nil
                          refine step_appN (base := w7.heap.size) rfl (.tmp 83) (.tmp 86) 27 rfl 47 (.agg #[.int .i64 0, .int .i64 0, .string ⟨#[]⟩, .int .i64 0, .int .i64 0, .int .i64 0, .int .i64 0]) 7 64 Tryd.underlying27 (by kernel_rfl) rfl (by omega) encFile_len one_file A6 c6 (j + 1) ((([] : List FileD) ++ o.take (j)) ++ [l[i]]) (by rw [List.length_append, HL5.out]; rfl) rfl hv6 (some ⟨g, j * 7, none⟩) (c' - j) _ (o.length - j) (o.drop j) hld rfl (HLdd.out _ hHeld.1) (by unfold maxLen; omega) (by omega) hHeld.1.size (o.length + 1) (by omega) ?_
                          intro A9 c9 v9 hv9 hw7
                          have hwi := hw7.below (B := w7.heap.size) hHeld.1.size (fun q hq => (hv6.block hq).1)
                          refine hK.out _ _ (HK.out _ (hHeld.1.trans hwi)) (fun hH2 => ?_)
                          clear hK K hHeld
                          have hHeld := hH2
                          clear hH2
                          clear hwi
                          try simp only [Act.put, List.setIfInBounds_toArray, List.set_cons_zero, List.set_cons_succ, List.getElem_toArray, List.getElem_cons_succ, List.getElem_cons_zero]
                          refine wpAnyH_take (i := 15) (v := ?v38) rfl (by kernel_rfl) (by kernel_rfl) (by kernel_rfl) (fun _ _ _ h => h) (Or.inl ⟨by rfl, ?hy38⟩) hHeld ?rest38
                          case hy38 => (intro W hSw; (try dsimp only at hSw); go_simp) <;> with_reducible rfl
                          try simp only [Act.put, List.setIfInBounds_toArray, List.set_cons_zero, List.set_cons_succ, List.getElem_toArray, List.getElem_cons_succ, List.getElem_cons_zero]
                          refine wpAnyH_done (by kernel_rfl) ?_ _
                          refine NoPanic.normal ?_
                          have hB9 := hB7.trans (hHeld.1.mono hzw)
                          have hmv9 := hmv7.below hHeld.1 (Nat.le_refl _)
                          rw [HE.out] at hv9
                          go_wp2_with fail
                          go_roundw
                          case rel => exact ⟨i + 1, A9, c9, by omega, by go_num, by rw [HI.out, insC_len], by rw [HI.out, insC_len]; exact hv9.mono hzw, hB9, hmv9⟩
                          case measure => simp [intOf]; omega
                      · go_simp
                        refine hK.out _ _ (HK.out _ (Below.alloc hHeld.1 hHeld.1.size _)) (fun hH2 => ?_)
                        have hzN1 : w7.heap.size ≤ v0.heap.size := hHeld.1.size
                        clear hK K hHeld
                        have hHeld := hH2
                        clear hH2
                        have b1 : Blk (v0.alloc (.cells #[.int .i64 l[i].id, .int .i64 l[i].series, .string l[i].title, .int .i64 l[i].opened, .int .i64 l[i].closed, .int .i64 l[i].state, .int .i64 l[i].pages] 47)) v0.heap.size 47 #[.int .i64 l[i].id, .int .i64 l[i].series, .string l[i].title, .int .i64 l[i].opened, .int .i64 l[i].closed, .int .i64 l[i].state, .int .i64 l[i].pages] := Blk.new v0 47 #[.int .i64 l[i].id, .int .i64 l[i].series, .string l[i].title, .int .i64 l[i].opened, .int .i64 l[i].closed, .int .i64 l[i].state, .int .i64 l[i].pages]
                        generalize (v0.alloc (.cells #[.int .i64 l[i].id, .int .i64 l[i].series, .string l[i].title, .int .i64 l[i].opened, .int .i64 l[i].closed, .int .i64 l[i].state, .int .i64 l[i].pages] 47)) = v10 at *
                        generalize v0.heap.size = N1 at *
                        try simp only [Act.put, List.setIfInBounds_toArray, List.set_cons_zero, List.set_cons_succ, List.getElem_toArray, List.getElem_cons_succ, List.getElem_cons_zero]
                        refine wpAnyH_ready (rs := [0]) (by kernel_rfl) (by simp) ?_
                        refine AllReadyH.cons rfl (fun K hK => ?_) AllReadyH.nil
                        go_simp
                        refine hK.out _ _ (HK.out _ (Below.alloc hHeld.1 hHeld.1.size _)) (fun hH2 => ?_)
                        have hzN0 : w7.heap.size ≤ v10.heap.size := hHeld.1.size
                        clear hK K hHeld
                        have hHeld := hH2
                        clear hH2
                        have lt_N1_N0 : N1 < v10.heap.size := b1.lt
                        replace b1 := b1.alloc (.cells #[] 47)
                        have b0 : Blk (v10.alloc (.cells #[] 47)) v10.heap.size 47 #[] := Blk.new v10 47 #[]
                        generalize (v10.alloc (.cells #[] 47)) = v11 at *
                        generalize v10.heap.size = N0 at *
                        try simp only [Act.put, List.setIfInBounds_toArray, List.set_cons_zero, List.set_cons_succ, List.getElem_toArray, List.getElem_cons_succ, List.getElem_cons_zero]
                        refine wpAnyH_ready (rs := [4]) (by kernel_rfl) (by simp) ?_
                        refine AllReadyH.cons rfl (fun K hK => ?_) AllReadyH.nil
                        refine step_appN (base := w7.heap.size) rfl (.tmp 73) (.tmp 76) 27 rfl 47 (.agg #[.int .i64 0, .int .i64 0, .string ⟨#[]⟩, .int .i64 0, .int .i64 0, .int .i64 0, .int .i64 0]) 7 64 Tryd.underlying27 (by kernel_rfl) rfl (by omega) encFile_len one_file _ 0 0 ([] : List FileD) rfl rfl (Vec.empty_at (base := w7.heap.size) b0 hzN0) (some ⟨g, 0, none⟩) c' _ (j) (o.take (j)) hlk rfl (HLt.out _ hHeld.1) (by unfold maxLen; omega) (by omega) hHeld.1.size (j) (by omega) ?_
                        intro A5 c5 v12 hv5 hw5
                        have hwi := hw5.below (B := w7.heap.size) hHeld.1.size (fun q hq => by obtain ⟨_, hx⟩ := hq; cases hx; exact hzN0)
                        replace b1 := b1.wr hw5 (fun hq => by obtain ⟨_, hx⟩ := hq; cases hx; omega)
                        refine hK.out _ _ (HK.out _ (hHeld.1.trans hwi)) (fun hH2 => ?_)
                        clear hK K hHeld
                        have hHeld := hH2
                        clear hH2
                        clear hwi
                        try simp only [Act.put, List.setIfInBounds_toArray, List.set_cons_zero, List.set_cons_succ, List.getElem_toArray, List.getElem_cons_succ, List.getElem_cons_zero]
                        refine wpAnyH_ready (rs := [10]) (by kernel_rfl) (by simp) ?_
                        refine AllReadyH.cons rfl (fun K hK => ?_) AllReadyH.nil
                        refine step_appN (base := w7.heap.size) rfl (.tmp 77) (.tmp 82) 27 rfl 47 (.agg #[.int .i64 0, .int .i64 0, .string ⟨#[]⟩, .int .i64 0, .int .i64 0, .int .i64 0, .int .i64 0]) 7 64 Tryd.underlying27 (by kernel_rfl) rfl (by omega) encFile_len one_file A5 c5 (j) (([] : List FileD) ++ o.take (j)) HL5.out rfl hv5 _ 1 _ 1 [l[i]] rfl rfl (Ls.blkc b1 rfl) (by unfold maxLen; omega) (by omega) hHeld.1.size (j + 1) (by omega) ?_
                        intro A6 c6 v13 hv6 hw6
                        have hwi := hw6.below (B := w7.heap.size) hHeld.1.size (fun q hq => (hv5.block hq).1)
                        refine hK.out _ _ (HK.out _ (hHeld.1.trans hwi)) (fun hH2 => ?_)
                        clear hK K hHeld
                        have hHeld := hH2
                        clear hH2
                        clear hwi
                        try simp only [Act.put, List.setIfInBounds_toArray, List.set_cons_zero, List.set_cons_succ, List.getElem_toArray, List.getElem_cons_succ, List.getElem_cons_zero]
                        refine wpAnyH_ready (rs := [14]) (by kernel_rfl) (by simp) ?_
                        refine AllReadyH.cons rfl (fun K hK => ?_) AllReadyH.nil
                        refine step_appN (base := w7.heap.size) rfl (.tmp 83) (.tmp 86) 27 rfl 47 (.agg #[.int .i64 0, .int .i64 0, .string ⟨#[]⟩, .int .i64 0, .int .i64 0, .int .i64 0, .int .i64 0]) 7 64 Tryd.underlying27 (by kernel_rfl) rfl (by omega) encFile_len one_file A6 c6 (j + 1) ((([] : List FileD) ++ o.take (j)) ++ [l[i]]) (by rw [List.length_append, HL5.out]; rfl) rfl hv6 (some ⟨g, j * 7, none⟩) (c' - j) _ (o.length - j) (o.drop j) hld rfl (HLdd.out _ hHeld.1) (by unfold maxLen; omega) (by omega) hHeld.1.size (o.length + 1) (by omega) ?_
                        intro A9 c9 v14 hv9 hw7
                        have hwi := hw7.below (B := w7.heap.size) hHeld.1.size (fun q hq => (hv6.block hq).1)
                        refine hK.out _ _ (HK.out _ (hHeld.1.trans hwi)) (fun hH2 => ?_)
                        clear hK K hHeld
                        have hHeld := hH2
                        clear hH2
                        clear hwi
                        try simp only [Act.put, List.setIfInBounds_toArray, List.set_cons_zero, List.set_cons_succ, List.getElem_toArray, List.getElem_cons_succ, List.getElem_cons_zero]
                        refine wpAnyH_take (i := 15) (v := ?v39) rfl (by kernel_rfl) (by kernel_rfl) (by kernel_rfl) (fun _ _ _ h => h) (Or.inl ⟨by rfl, ?hy39⟩) hHeld ?rest39
                        case hy39 => (intro W hSw; (try dsimp only at hSw); go_simp) <;> with_reducible rfl
                        try simp only [Act.put, List.setIfInBounds_toArray, List.set_cons_zero, List.set_cons_succ, List.getElem_toArray, List.getElem_cons_succ, List.getElem_cons_zero]
                        refine wpAnyH_done (by kernel_rfl) ?_ _
                        refine NoPanic.normal ?_
                        have hB9 := hB7.trans (hHeld.1.mono hzw)
                        have hmv9 := hmv7.below hHeld.1 (Nat.le_refl _)
                        rw [HE.out] at hv9
                        go_wp2_with fail
                        go_roundw
                        case rel => exact ⟨i + 1, A9, c9, by omega, by go_num, by rw [HI.out, insC_len], by rw [HI.out, insC_len]; exact hv9.mono hzw, hB9, hmv9⟩
                        case measure => simp [intOf]; omega
                    · obtain rfl : j = o.length := by omega
                      have hv7 := (hvr.drew)
                      have hmv7 := (hmv.on hb2).drew
                      clear hmv
                      have hB7 : Below w.heap.size w wr.drew := (hbx.trans (hb2.mono hbx.size)).drew
                      have hq7 : b < wr.drew.heap.size := by show b < wr.heap.size; omega
                      have hzw : w.heap.size ≤ wr.drew.heap.size := hB7.size
                      clear hvr hbx hb2
                      replace y0 : wr.drew.cell? ⟨b, off + i * 7, none⟩ = some (.int .i64 l[i].id) := y0
                      replace y1 : wr.drew.cell? ⟨b, off + i * 7 + 1, none⟩ = some (.int .i64 l[i].series) := y1
                      replace y2 : wr.drew.cell? ⟨b, off + i * 7 + 2, none⟩ = some (.string l[i].title) := y2
                      replace y3 : wr.drew.cell? ⟨b, off + i * 7 + 3, none⟩ = some (.int .i64 l[i].opened) := y3
                      replace y4 : wr.drew.cell? ⟨b, off + i * 7 + 4, none⟩ = some (.int .i64 l[i].closed) := y4
                      replace y5 : wr.drew.cell? ⟨b, off + i * 7 + 5, none⟩ = some (.int .i64 l[i].state) := y5
                      replace y6 : wr.drew.cell? ⟨b, off + i * 7 + 6, none⟩ = some (.int .i64 l[i].pages) := y6
                      generalize wr.drew = w7 at *
                      have hLs7 := hv7.ls encFile_len
                      have HLs : Hid (∀ W, Below w7.heap.size w7 W → Ls W W.heap.size encFile 7 A' o) := fun W hb => (hLs7.below hb).more hb.size
                      have hlk : (o.take (o.length)).length = o.length := by simp; try omega
                      have HLt : Hid (∀ W, Below w7.heap.size w7 W → Ls W W.heap.size encFile 7 A' (o.take (o.length))) := fun W hb => Ls.take_ (HLs.out W hb) _
                      have hkc : o.length ≤ c' := hcapo
                      have HE : Hid ((((([] : List FileD) ++ o.take (o.length)) ++ [l[i]]) ++ ([] : List FileD)) = insC o l[i]) := by unfold Hid insC; rw [HP.out]; simp
                      have HL5 : Hid ((([] : List FileD) ++ o.take (o.length)).length = o.length) := hlk
                      have HK : Hid (∀ W, Below w7.heap.size w7 W → Below w7.heap.size w7 W ∧ W.cell? ⟨b, off + i * 7, none⟩ = some (.int .i64 l[i].id) ∧ W.cell? ⟨b, off + i * 7 + 1, none⟩ = some (.int .i64 l[i].series) ∧ W.cell? ⟨b, off + i * 7 + 2, none⟩ = some (.string l[i].title) ∧ W.cell? ⟨b, off + i * 7 + 3, none⟩ = some (.int .i64 l[i].opened) ∧ W.cell? ⟨b, off + i * 7 + 4, none⟩ = some (.int .i64 l[i].closed) ∧ W.cell? ⟨b, off + i * 7 + 5, none⟩ = some (.int .i64 l[i].state) ∧ W.cell? ⟨b, off + i * 7 + 6, none⟩ = some (.int .i64 l[i].pages)) := fun W hb => ⟨hb, (hb.cell (p := ⟨b, _, none⟩) hq7).trans y0, (hb.cell (p := ⟨b, _, none⟩) hq7).trans y1, (hb.cell (p := ⟨b, _, none⟩) hq7).trans y2, (hb.cell (p := ⟨b, _, none⟩) hq7).trans y3, (hb.cell (p := ⟨b, _, none⟩) hq7).trans y4, (hb.cell (p := ⟨b, _, none⟩) hq7).trans y5, (hb.cell (p := ⟨b, _, none⟩) hq7).trans y6⟩
                      clear y0 y1 y2 y3 y4 y5 y6 hLs7
                      refine wp_region_noPanic ?_
                      refine wp_region_held_drew (S := fun W => Below w7.heap.size w7 W ∧ W.cell? ⟨b, off + i * 7, none⟩ = some (.int .i64 l[i].id) ∧ W.cell? ⟨b, off + i * 7 + 1, none⟩ = some (.int .i64 l[i].series) ∧ W.cell? ⟨b, off + i * 7 + 2, none⟩ = some (.string l[i].title) ∧ W.cell? ⟨b, off + i * 7 + 3, none⟩ = some (.int .i64 l[i].opened) ∧ W.cell? ⟨b, off + i * 7 + 4, none⟩ = some (.int .i64 l[i].closed) ∧ W.cell? ⟨b, off + i * 7 + 5, none⟩ = some (.int .i64 l[i].state) ∧ W.cell? ⟨b, off + i * 7 + 6, none⟩ = some (.int .i64 l[i].pages)) (by kernel_rfl) (HK.out _ (Below.refl _ _).drew) (fun hHeld => ?_)
                      generalize w7.drew = v0 at *
                      refine wpAnyH_take (i := 1) (v := ?v40) rfl (by kernel_rfl) (by kernel_rfl) (by kernel_rfl) (fun _ _ _ h => h) (Or.inl ⟨by rfl, ?hy40⟩) hHeld ?rest40
                      case hy40 => (intro W hSw; (try dsimp only at hSw); go_simp) <;> with_reducible rfl
                      try simp only [Act.put, List.setIfInBounds_toArray, List.set_cons_zero, List.set_cons_succ, List.getElem_toArray, List.getElem_cons_succ, List.getElem_cons_zero]
                      refine wpAnyH_take (i := 2) (v := ?v41) rfl (by kernel_rfl) (by kernel_rfl) (by kernel_rfl) (fun _ _ _ h => h) (Or.inl ⟨by rfl, ?hy41⟩) hHeld ?rest41
                      case hy41 => (intro W hSw; (try dsimp only at hSw); go_simp) <;> with_reducible rfl
                      try simp only [Act.put, List.setIfInBounds_toArray, List.set_cons_zero, List.set_cons_succ, List.getElem_toArray, List.getElem_cons_succ, List.getElem_cons_zero]
                      refine wpAnyH_take (i := 3) (v := ?v42) rfl (by kernel_rfl) (by kernel_rfl) (by kernel_rfl) (fun _ _ _ h => h) (Or.inl ⟨by rfl, ?hy42⟩) hHeld ?rest42
                      case hy42 => (intro W hSw; (try dsimp only at hSw); go_simp) <;> with_reducible rfl
                      try simp only [Act.put, List.setIfInBounds_toArray, List.set_cons_zero, List.set_cons_succ, List.getElem_toArray, List.getElem_cons_succ, List.getElem_cons_zero]
                      refine wpAnyH_take (i := 5) (v := ?v43) rfl (by kernel_rfl) (by kernel_rfl) (by kernel_rfl) (fun _ _ _ h => h) (Or.inl ⟨by rfl, ?hy43⟩) hHeld ?rest43
                      case hy43 => (intro W hSw; (try dsimp only at hSw); go_simp) <;> with_reducible rfl
                      try simp only [Act.put, List.setIfInBounds_toArray, List.set_cons_zero, List.set_cons_succ, List.getElem_toArray, List.getElem_cons_succ, List.getElem_cons_zero]
                      refine wpAnyH_take (i := 6) (v := ?v44) rfl (by kernel_rfl) (by kernel_rfl) (by kernel_rfl) (fun _ _ _ h => h) (Or.inl ⟨by rfl, ?hy44⟩) hHeld ?rest44
                      case hy44 => (intro W hSw; (try dsimp only at hSw); go_simp) <;> with_reducible rfl
                      try simp only [Act.put, List.setIfInBounds_toArray, List.set_cons_zero, List.set_cons_succ, List.getElem_toArray, List.getElem_cons_succ, List.getElem_cons_zero]
                      refine wpAnyH_take (i := 7) (v := ?v45) rfl (by kernel_rfl) (by kernel_rfl) (by kernel_rfl) (fun _ _ _ h => h) (Or.inl ⟨by rfl, ?hy45⟩) hHeld ?rest45
                      case hy45 => (intro W hSw; (try dsimp only at hSw); go_simp) <;> with_reducible rfl
                      try simp only [Act.put, List.setIfInBounds_toArray, List.set_cons_zero, List.set_cons_succ, List.getElem_toArray, List.getElem_cons_succ, List.getElem_cons_zero]
                      refine wpAnyH_take (i := 8) (v := ?v46) rfl (by kernel_rfl) (by kernel_rfl) (by kernel_rfl) (fun _ _ _ h => h) (Or.inl ⟨by rfl, ?hy46⟩) hHeld ?rest46
                      case hy46 => (intro W hSw; (try dsimp only at hSw); go_simp) <;> with_reducible rfl
                      try simp only [Act.put, List.setIfInBounds_toArray, List.set_cons_zero, List.set_cons_succ, List.getElem_toArray, List.getElem_cons_succ, List.getElem_cons_zero]
                      refine wpAnyH_take (i := 11) (v := ?v47) rfl (by kernel_rfl) (by kernel_rfl) (by kernel_rfl) (fun _ _ _ h => h) (Or.inl ⟨by rfl, ?hy47⟩) hHeld ?rest47
                      case hy47 => (intro W hSw; (try dsimp only at hSw); go_simp) <;> with_reducible rfl
                      try simp only [Act.put, List.setIfInBounds_toArray, List.set_cons_zero, List.set_cons_succ, List.getElem_toArray, List.getElem_cons_succ, List.getElem_cons_zero]
                      refine wpAnyH_take (i := 12) (v := ?v48) rfl (by kernel_rfl) (by kernel_rfl) (by kernel_rfl) (fun _ _ _ h => h) (Or.inl ⟨by rfl, ?hy48⟩) hHeld ?rest48
                      case hy48 => (intro W hSw; (try dsimp only at hSw); go_simp) <;> with_reducible rfl
                      try simp only [Act.put, List.setIfInBounds_toArray, List.set_cons_zero, List.set_cons_succ, List.getElem_toArray, List.getElem_cons_succ, List.getElem_cons_zero]
                      refine wpAnyH_take (i := 13) (v := ?v49) rfl (by kernel_rfl) (by kernel_rfl) (by kernel_rfl) (fun _ _ _ h => h) (Or.inl ⟨by rfl, ?hy49⟩) hHeld ?rest49
                      case hy49 => (intro W hSw; (try dsimp only at hSw); go_simp) <;> with_reducible rfl
                      try simp only [Act.put, List.setIfInBounds_toArray, List.set_cons_zero, List.set_cons_succ, List.getElem_toArray, List.getElem_cons_succ, List.getElem_cons_zero]
                      refine wpAnyH_ready (rs := [0, 9]) (by kernel_rfl) (by simp) ?_
                      refine AllReadyH.cons rfl (fun K hK => ?_) (AllReadyH.cons rfl (fun K hK => ?_) AllReadyH.nil)
                      · go_simp
                        refine hK.out _ _ (HK.out _ (Below.alloc hHeld.1 hHeld.1.size _)) (fun hH2 => ?_)
                        have hzN0 : w7.heap.size ≤ v0.heap.size := hHeld.1.size
                        clear hK K hHeld
                        have hHeld := hH2
                        clear hH2
                        have b0 : Blk (v0.alloc (.cells #[] 47)) v0.heap.size 47 #[] := Blk.new v0 47 #[]
                        generalize (v0.alloc (.cells #[] 47)) = v1 at *
                        generalize v0.heap.size = N0 at *
                        try simp only [Act.put, List.setIfInBounds_toArray, List.set_cons_zero, List.set_cons_succ, List.getElem_toArray, List.getElem_cons_succ, List.getElem_cons_zero]
                        refine wpAnyH_ready (rs := [4, 9]) (by kernel_rfl) (by simp) ?_
                        refine AllReadyH.cons rfl (fun K hK => ?_) (AllReadyH.cons rfl (fun K hK => ?_) AllReadyH.nil)
                        · refine step_appN (base := w7.heap.size) rfl (.tmp 73) (.tmp 76) 27 rfl 47 (.agg #[.int .i64 0, .int .i64 0, .string ⟨#[]⟩, .int .i64 0, .int .i64 0, .int .i64 0, .int .i64 0]) 7 64 Tryd.underlying27 (by kernel_rfl) rfl (by omega) encFile_len one_file _ 0 0 ([] : List FileD) rfl rfl (Vec.empty_at (base := w7.heap.size) b0 hzN0) A' c' _ (o.length) (o.take (o.length)) hlk rfl (HLt.out _ hHeld.1) (by unfold maxLen; omega) (by omega) hHeld.1.size (o.length) (by omega) ?_
                          intro A5 c5 v2 hv5 hw5
                          have hwi := hw5.below (B := w7.heap.size) hHeld.1.size (fun q hq => by obtain ⟨_, hx⟩ := hq; cases hx; exact hzN0)
                          refine hK.out _ _ (HK.out _ (hHeld.1.trans hwi)) (fun hH2 => ?_)
                          clear hK K hHeld
                          have hHeld := hH2
                          clear hH2
                          clear hwi
                          try simp only [Act.put, List.setIfInBounds_toArray, List.set_cons_zero, List.set_cons_succ, List.getElem_toArray, List.getElem_cons_succ, List.getElem_cons_zero]
                          refine wpAnyH_ready (rs := [9]) (by kernel_rfl) (by simp) ?_
                          refine AllReadyH.cons rfl (fun K hK => ?_) AllReadyH.nil
                          go_simp
                          refine hK.out _ _ (HK.out _ (Below.alloc hHeld.1 hHeld.1.size _)) (fun hH2 => ?_)
                          have hzN1 : w7.heap.size ≤ v2.heap.size := hHeld.1.size
                          clear hK K hHeld
                          have hHeld := hH2
                          clear hH2
                          replace hv5 := hv5.alloc (.cells #[.int .i64 l[i].id, .int .i64 l[i].series, .string l[i].title, .int .i64 l[i].opened, .int .i64 l[i].closed, .int .i64 l[i].state, .int .i64 l[i].pages] 47)
                          have b1 : Blk (v2.alloc (.cells #[.int .i64 l[i].id, .int .i64 l[i].series, .string l[i].title, .int .i64 l[i].opened, .int .i64 l[i].closed, .int .i64 l[i].state, .int .i64 l[i].pages] 47)) v2.heap.size 47 #[.int .i64 l[i].id, .int .i64 l[i].series, .string l[i].title, .int .i64 l[i].opened, .int .i64 l[i].closed, .int .i64 l[i].state, .int .i64 l[i].pages] := Blk.new v2 47 #[.int .i64 l[i].id, .int .i64 l[i].series, .string l[i].title, .int .i64 l[i].opened, .int .i64 l[i].closed, .int .i64 l[i].state, .int .i64 l[i].pages]
                          generalize (v2.alloc (.cells #[.int .i64 l[i].id, .int .i64 l[i].series, .string l[i].title, .int .i64 l[i].opened, .int .i64 l[i].closed, .int .i64 l[i].state, .int .i64 l[i].pages] 47)) = v3 at *
                          generalize v2.heap.size = N1 at *
                          try simp only [Act.put, List.setIfInBounds_toArray, List.set_cons_zero, List.set_cons_succ, List.getElem_toArray, List.getElem_cons_succ, List.getElem_cons_zero]
                          refine wpAnyH_ready (rs := [10]) (by kernel_rfl) (by simp) ?_
                          refine AllReadyH.cons rfl (fun K hK => ?_) AllReadyH.nil
                          refine step_appN (base := w7.heap.size) rfl (.tmp 77) (.tmp 82) 27 rfl 47 (.agg #[.int .i64 0, .int .i64 0, .string ⟨#[]⟩, .int .i64 0, .int .i64 0, .int .i64 0, .int .i64 0]) 7 64 Tryd.underlying27 (by kernel_rfl) rfl (by omega) encFile_len one_file A5 c5 (o.length) (([] : List FileD) ++ o.take (o.length)) HL5.out rfl hv5 _ 1 _ 1 [l[i]] rfl rfl (Ls.blkc b1 rfl) (by unfold maxLen; omega) (by omega) hHeld.1.size (o.length + 1) (by omega) ?_
                          intro A6 c6 v4 hv6 hw6
                          have hwi := hw6.below (B := w7.heap.size) hHeld.1.size (fun q hq => (hv5.block hq).1)
                          refine hK.out _ _ (HK.out _ (hHeld.1.trans hwi)) (fun hH2 => ?_)
                          clear hK K hHeld
                          have hHeld := hH2
                          clear hH2
                          clear hwi
                          try simp only [Act.put, List.setIfInBounds_toArray, List.set_cons_zero, List.set_cons_succ, List.getElem_toArray, List.getElem_cons_succ, List.getElem_cons_zero]
                          refine wpAnyH_ready (rs := [14]) (by kernel_rfl) (by simp) ?_
                          refine AllReadyH.cons rfl (fun K hK => ?_) AllReadyH.nil
                          refine step_appN (base := w7.heap.size) rfl (.tmp 83) (.tmp 86) 27 rfl 47 (.agg #[.int .i64 0, .int .i64 0, .string ⟨#[]⟩, .int .i64 0, .int .i64 0, .int .i64 0, .int .i64 0]) 7 64 Tryd.underlying27 (by kernel_rfl) rfl (by omega) encFile_len one_file A6 c6 (o.length + 1) ((([] : List FileD) ++ o.take (o.length)) ++ [l[i]]) (by rw [List.length_append, HL5.out]; rfl) rfl hv6 _ _ 0 0 ([] : List FileD) rfl rfl (Ls.none_ (A := _) (B := 0)) (by unfold maxLen; omega) (by omega) hHeld.1.size (o.length + 1) (by omega) ?_
                          intro A9 c9 v5 hv9 hw7
                          have hwi := hw7.below (B := w7.heap.size) hHeld.1.size (fun q hq => (hv6.block hq).1)
                          refine hK.out _ _ (HK.out _ (hHeld.1.trans hwi)) (fun hH2 => ?_)
                          clear hK K hHeld
                          have hHeld := hH2
                          clear hH2
                          clear hwi
                          try simp only [Act.put, List.setIfInBounds_toArray, List.set_cons_zero, List.set_cons_succ, List.getElem_toArray, List.getElem_cons_succ, List.getElem_cons_zero]
                          refine wpAnyH_take (i := 15) (v := ?v50) rfl (by kernel_rfl) (by kernel_rfl) (by kernel_rfl) (fun _ _ _ h => h) (Or.inl ⟨by rfl, ?hy50⟩) hHeld ?rest50
                          case hy50 => (intro W hSw; (try dsimp only at hSw); go_simp) <;> with_reducible rfl
                          try simp only [Act.put, List.setIfInBounds_toArray, List.set_cons_zero, List.set_cons_succ, List.getElem_toArray, List.getElem_cons_succ, List.getElem_cons_zero]
                          refine wpAnyH_done (by kernel_rfl) ?_ _
                          refine NoPanic.normal ?_
                          have hB9 := hB7.trans (hHeld.1.mono hzw)
                          have hmv9 := hmv7.below hHeld.1 (Nat.le_refl _)
                          rw [HE.out] at hv9
                          go_wp2_with fail
                          go_roundw
                          case rel => exact ⟨i + 1, A9, c9, by omega, by go_num, by rw [HI.out, insC_len], by rw [HI.out, insC_len]; exact hv9.mono hzw, hB9, hmv9⟩
                          case measure => simp [intOf]; omega
                        · go_simp
                          refine hK.out _ _ (HK.out _ (Below.alloc hHeld.1 hHeld.1.size _)) (fun hH2 => ?_)
                          have hzN1 : w7.heap.size ≤ v1.heap.size := hHeld.1.size
                          clear hK K hHeld
                          have hHeld := hH2
                          clear hH2
                          have lt_N0_N1 : N0 < v1.heap.size := b0.lt
                          replace b0 := b0.alloc (.cells #[.int .i64 l[i].id, .int .i64 l[i].series, .string l[i].title, .int .i64 l[i].opened, .int .i64 l[i].closed, .int .i64 l[i].state, .int .i64 l[i].pages] 47)
                          have b1 : Blk (v1.alloc (.cells #[.int .i64 l[i].id, .int .i64 l[i].series, .string l[i].title, .int .i64 l[i].opened, .int .i64 l[i].closed, .int .i64 l[i].state, .int .i64 l[i].pages] 47)) v1.heap.size 47 #[.int .i64 l[i].id, .int .i64 l[i].series, .string l[i].title, .int .i64 l[i].opened, .int .i64 l[i].closed, .int .i64 l[i].state, .int .i64 l[i].pages] := Blk.new v1 47 #[.int .i64 l[i].id, .int .i64 l[i].series, .string l[i].title, .int .i64 l[i].opened, .int .i64 l[i].closed, .int .i64 l[i].state, .int .i64 l[i].pages]
                          generalize (v1.alloc (.cells #[.int .i64 l[i].id, .int .i64 l[i].series, .string l[i].title, .int .i64 l[i].opened, .int .i64 l[i].closed, .int .i64 l[i].state, .int .i64 l[i].pages] 47)) = v6 at *
                          generalize v1.heap.size = N1 at *
                          try simp only [Act.put, List.setIfInBounds_toArray, List.set_cons_zero, List.set_cons_succ, List.getElem_toArray, List.getElem_cons_succ, List.getElem_cons_zero]
                          refine wpAnyH_ready (rs := [4]) (by kernel_rfl) (by simp) ?_
                          refine AllReadyH.cons rfl (fun K hK => ?_) AllReadyH.nil
                          refine step_appN (base := w7.heap.size) rfl (.tmp 73) (.tmp 76) 27 rfl 47 (.agg #[.int .i64 0, .int .i64 0, .string ⟨#[]⟩, .int .i64 0, .int .i64 0, .int .i64 0, .int .i64 0]) 7 64 Tryd.underlying27 (by kernel_rfl) rfl (by omega) encFile_len one_file _ 0 0 ([] : List FileD) rfl rfl (Vec.empty_at (base := w7.heap.size) b0 hzN0) A' c' _ (o.length) (o.take (o.length)) hlk rfl (HLt.out _ hHeld.1) (by unfold maxLen; omega) (by omega) hHeld.1.size (o.length) (by omega) ?_
                          intro A5 c5 v7 hv5 hw5
                          have hwi := hw5.below (B := w7.heap.size) hHeld.1.size (fun q hq => by obtain ⟨_, hx⟩ := hq; cases hx; exact hzN0)
                          replace b1 := b1.wr hw5 (fun hq => by obtain ⟨_, hx⟩ := hq; cases hx; omega)
                          refine hK.out _ _ (HK.out _ (hHeld.1.trans hwi)) (fun hH2 => ?_)
                          clear hK K hHeld
                          have hHeld := hH2
                          clear hH2
                          clear hwi
                          try simp only [Act.put, List.setIfInBounds_toArray, List.set_cons_zero, List.set_cons_succ, List.getElem_toArray, List.getElem_cons_succ, List.getElem_cons_zero]
                          refine wpAnyH_ready (rs := [10]) (by kernel_rfl) (by simp) ?_
                          refine AllReadyH.cons rfl (fun K hK => ?_) AllReadyH.nil
                          refine step_appN (base := w7.heap.size) rfl (.tmp 77) (.tmp 82) 27 rfl 47 (.agg #[.int .i64 0, .int .i64 0, .string ⟨#[]⟩, .int .i64 0, .int .i64 0, .int .i64 0, .int .i64 0]) 7 64 Tryd.underlying27 (by kernel_rfl) rfl (by omega) encFile_len one_file A5 c5 (o.length) (([] : List FileD) ++ o.take (o.length)) HL5.out rfl hv5 _ 1 _ 1 [l[i]] rfl rfl (Ls.blkc b1 rfl) (by unfold maxLen; omega) (by omega) hHeld.1.size (o.length + 1) (by omega) ?_
                          intro A6 c6 v8 hv6 hw6
                          have hwi := hw6.below (B := w7.heap.size) hHeld.1.size (fun q hq => (hv5.block hq).1)
                          refine hK.out _ _ (HK.out _ (hHeld.1.trans hwi)) (fun hH2 => ?_)
                          clear hK K hHeld
                          have hHeld := hH2
                          clear hH2
                          clear hwi
                          try simp only [Act.put, List.setIfInBounds_toArray, List.set_cons_zero, List.set_cons_succ, List.getElem_toArray, List.getElem_cons_succ, List.getElem_cons_zero]
                          refine wpAnyH_ready (rs := [14]) (by kernel_rfl) (by simp) ?_
                          refine AllReadyH.cons rfl (fun K hK => ?_) AllReadyH.nil
                          refine step_appN (base := w7.heap.size) rfl (.tmp 83) (.tmp 86) 27 rfl 47 (.agg #[.int .i64 0, .int .i64 0, .string ⟨#[]⟩, .int .i64 0, .int .i64 0, .int .i64 0, .int .i64 0]) 7 64 Tryd.underlying27 (by kernel_rfl) rfl (by omega) encFile_len one_file A6 c6 (o.length + 1) ((([] : List FileD) ++ o.take (o.length)) ++ [l[i]]) (by rw [List.length_append, HL5.out]; rfl) rfl hv6 _ _ 0 0 ([] : List FileD) rfl rfl (Ls.none_ (A := _) (B := 0)) (by unfold maxLen; omega) (by omega) hHeld.1.size (o.length + 1) (by omega) ?_
                          intro A9 c9 v9 hv9 hw7
                          have hwi := hw7.below (B := w7.heap.size) hHeld.1.size (fun q hq => (hv6.block hq).1)
                          refine hK.out _ _ (HK.out _ (hHeld.1.trans hwi)) (fun hH2 => ?_)
                          clear hK K hHeld
                          have hHeld := hH2
                          clear hH2
                          clear hwi
                          try simp only [Act.put, List.setIfInBounds_toArray, List.set_cons_zero, List.set_cons_succ, List.getElem_toArray, List.getElem_cons_succ, List.getElem_cons_zero]
                          refine wpAnyH_take (i := 15) (v := ?v51) rfl (by kernel_rfl) (by kernel_rfl) (by kernel_rfl) (fun _ _ _ h => h) (Or.inl ⟨by rfl, ?hy51⟩) hHeld ?rest51
                          case hy51 => (intro W hSw; (try dsimp only at hSw); go_simp) <;> with_reducible rfl
                          try simp only [Act.put, List.setIfInBounds_toArray, List.set_cons_zero, List.set_cons_succ, List.getElem_toArray, List.getElem_cons_succ, List.getElem_cons_zero]
                          refine wpAnyH_done (by kernel_rfl) ?_ _
                          refine NoPanic.normal ?_
                          have hB9 := hB7.trans (hHeld.1.mono hzw)
                          have hmv9 := hmv7.below hHeld.1 (Nat.le_refl _)
                          rw [HE.out] at hv9
                          go_wp2_with fail
                          go_roundw
                          case rel => exact ⟨i + 1, A9, c9, by omega, by go_num, by rw [HI.out, insC_len], by rw [HI.out, insC_len]; exact hv9.mono hzw, hB9, hmv9⟩
                          case measure => simp [intOf]; omega
                      · go_simp
                        refine hK.out _ _ (HK.out _ (Below.alloc hHeld.1 hHeld.1.size _)) (fun hH2 => ?_)
                        have hzN1 : w7.heap.size ≤ v0.heap.size := hHeld.1.size
                        clear hK K hHeld
                        have hHeld := hH2
                        clear hH2
                        have b1 : Blk (v0.alloc (.cells #[.int .i64 l[i].id, .int .i64 l[i].series, .string l[i].title, .int .i64 l[i].opened, .int .i64 l[i].closed, .int .i64 l[i].state, .int .i64 l[i].pages] 47)) v0.heap.size 47 #[.int .i64 l[i].id, .int .i64 l[i].series, .string l[i].title, .int .i64 l[i].opened, .int .i64 l[i].closed, .int .i64 l[i].state, .int .i64 l[i].pages] := Blk.new v0 47 #[.int .i64 l[i].id, .int .i64 l[i].series, .string l[i].title, .int .i64 l[i].opened, .int .i64 l[i].closed, .int .i64 l[i].state, .int .i64 l[i].pages]
                        generalize (v0.alloc (.cells #[.int .i64 l[i].id, .int .i64 l[i].series, .string l[i].title, .int .i64 l[i].opened, .int .i64 l[i].closed, .int .i64 l[i].state, .int .i64 l[i].pages] 47)) = v10 at *
                        generalize v0.heap.size = N1 at *
                        try simp only [Act.put, List.setIfInBounds_toArray, List.set_cons_zero, List.set_cons_succ, List.getElem_toArray, List.getElem_cons_succ, List.getElem_cons_zero]
                        refine wpAnyH_ready (rs := [0]) (by kernel_rfl) (by simp) ?_
                        refine AllReadyH.cons rfl (fun K hK => ?_) AllReadyH.nil
                        go_simp
                        refine hK.out _ _ (HK.out _ (Below.alloc hHeld.1 hHeld.1.size _)) (fun hH2 => ?_)
                        have hzN0 : w7.heap.size ≤ v10.heap.size := hHeld.1.size
                        clear hK K hHeld
                        have hHeld := hH2
                        clear hH2
                        have lt_N1_N0 : N1 < v10.heap.size := b1.lt
                        replace b1 := b1.alloc (.cells #[] 47)
                        have b0 : Blk (v10.alloc (.cells #[] 47)) v10.heap.size 47 #[] := Blk.new v10 47 #[]
                        generalize (v10.alloc (.cells #[] 47)) = v11 at *
                        generalize v10.heap.size = N0 at *
                        try simp only [Act.put, List.setIfInBounds_toArray, List.set_cons_zero, List.set_cons_succ, List.getElem_toArray, List.getElem_cons_succ, List.getElem_cons_zero]
                        refine wpAnyH_ready (rs := [4]) (by kernel_rfl) (by simp) ?_
                        refine AllReadyH.cons rfl (fun K hK => ?_) AllReadyH.nil
                        refine step_appN (base := w7.heap.size) rfl (.tmp 73) (.tmp 76) 27 rfl 47 (.agg #[.int .i64 0, .int .i64 0, .string ⟨#[]⟩, .int .i64 0, .int .i64 0, .int .i64 0, .int .i64 0]) 7 64 Tryd.underlying27 (by kernel_rfl) rfl (by omega) encFile_len one_file _ 0 0 ([] : List FileD) rfl rfl (Vec.empty_at (base := w7.heap.size) b0 hzN0) A' c' _ (o.length) (o.take (o.length)) hlk rfl (HLt.out _ hHeld.1) (by unfold maxLen; omega) (by omega) hHeld.1.size (o.length) (by omega) ?_
                        intro A5 c5 v12 hv5 hw5
                        have hwi := hw5.below (B := w7.heap.size) hHeld.1.size (fun q hq => by obtain ⟨_, hx⟩ := hq; cases hx; exact hzN0)
                        replace b1 := b1.wr hw5 (fun hq => by obtain ⟨_, hx⟩ := hq; cases hx; omega)
                        refine hK.out _ _ (HK.out _ (hHeld.1.trans hwi)) (fun hH2 => ?_)
                        clear hK K hHeld
                        have hHeld := hH2
                        clear hH2
                        clear hwi
                        try simp only [Act.put, List.setIfInBounds_toArray, List.set_cons_zero, List.set_cons_succ, List.getElem_toArray, List.getElem_cons_succ, List.getElem_cons_zero]
                        refine wpAnyH_ready (rs := [10]) (by kernel_rfl) (by simp) ?_
                        refine AllReadyH.cons rfl (fun K hK => ?_) AllReadyH.nil
                        refine step_appN (base := w7.heap.size) rfl (.tmp 77) (.tmp 82) 27 rfl 47 (.agg #[.int .i64 0, .int .i64 0, .string ⟨#[]⟩, .int .i64 0, .int .i64 0, .int .i64 0, .int .i64 0]) 7 64 Tryd.underlying27 (by kernel_rfl) rfl (by omega) encFile_len one_file A5 c5 (o.length) (([] : List FileD) ++ o.take (o.length)) HL5.out rfl hv5 _ 1 _ 1 [l[i]] rfl rfl (Ls.blkc b1 rfl) (by unfold maxLen; omega) (by omega) hHeld.1.size (o.length + 1) (by omega) ?_
                        intro A6 c6 v13 hv6 hw6
                        have hwi := hw6.below (B := w7.heap.size) hHeld.1.size (fun q hq => (hv5.block hq).1)
                        refine hK.out _ _ (HK.out _ (hHeld.1.trans hwi)) (fun hH2 => ?_)
                        clear hK K hHeld
                        have hHeld := hH2
                        clear hH2
                        clear hwi
                        try simp only [Act.put, List.setIfInBounds_toArray, List.set_cons_zero, List.set_cons_succ, List.getElem_toArray, List.getElem_cons_succ, List.getElem_cons_zero]
                        refine wpAnyH_ready (rs := [14]) (by kernel_rfl) (by simp) ?_
                        refine AllReadyH.cons rfl (fun K hK => ?_) AllReadyH.nil
                        refine step_appN (base := w7.heap.size) rfl (.tmp 83) (.tmp 86) 27 rfl 47 (.agg #[.int .i64 0, .int .i64 0, .string ⟨#[]⟩, .int .i64 0, .int .i64 0, .int .i64 0, .int .i64 0]) 7 64 Tryd.underlying27 (by kernel_rfl) rfl (by omega) encFile_len one_file A6 c6 (o.length + 1) ((([] : List FileD) ++ o.take (o.length)) ++ [l[i]]) (by rw [List.length_append, HL5.out]; rfl) rfl hv6 _ _ 0 0 ([] : List FileD) rfl rfl (Ls.none_ (A := _) (B := 0)) (by unfold maxLen; omega) (by omega) hHeld.1.size (o.length + 1) (by omega) ?_
                        intro A9 c9 v14 hv9 hw7
                        have hwi := hw7.below (B := w7.heap.size) hHeld.1.size (fun q hq => (hv6.block hq).1)
                        refine hK.out _ _ (HK.out _ (hHeld.1.trans hwi)) (fun hH2 => ?_)
                        clear hK K hHeld
                        have hHeld := hH2
                        clear hH2
                        clear hwi
                        try simp only [Act.put, List.setIfInBounds_toArray, List.set_cons_zero, List.set_cons_succ, List.getElem_toArray, List.getElem_cons_succ, List.getElem_cons_zero]
                        refine wpAnyH_take (i := 15) (v := ?v52) rfl (by kernel_rfl) (by kernel_rfl) (by kernel_rfl) (fun _ _ _ h => h) (Or.inl ⟨by rfl, ?hy52⟩) hHeld ?rest52
                        case hy52 => (intro W hSw; (try dsimp only at hSw); go_simp) <;> with_reducible rfl
                        try simp only [Act.put, List.setIfInBounds_toArray, List.set_cons_zero, List.set_cons_succ, List.getElem_toArray, List.getElem_cons_succ, List.getElem_cons_zero]
                        refine wpAnyH_done (by kernel_rfl) ?_ _
                        refine NoPanic.normal ?_
                        have hB9 := hB7.trans (hHeld.1.mono hzw)
                        have hmv9 := hmv7.below hHeld.1 (Nat.le_refl _)
                        rw [HE.out] at hv9
                        go_wp2_with fail
                        go_roundw
                        case rel => exact ⟨i + 1, A9, c9, by omega, by go_num, by rw [HI.out, insC_len], by rw [HI.out, insC_len]; exact hv9.mono hzw, hB9, hmv9⟩
                        case measure => simp [intOf]; omega
            · have Hk := Lib.hid (ordK_no hlt (show spanB fr to l[i] = false by simp only [spanB, hs]; rfl))
              go_wp2_with fail
              go_roundw
              case rel => exact ⟨i + 1, A', c', by omega, by go_num, by rw [Hk.out], by rw [Hk.out]; exact hv, hbx, hmv⟩
              case measure => simp [intOf]; omega
          · obtain rfl : i = l.length := by omega
            have hol : (ordK l fr to l.length).length ≤ 10 := by rw [ordK_len]; have := spanK_le l fr to l.length; omega
            have HO : Hid (ordL l fr to = ordK l fr to l.length) := rfl
            have hmi2 : Vec wo w.heap.size 3 encInt 1 (.slice (some ⟨w.heap.size, 0, none⟩) 0 0) [] := hmv
            generalize ordK l fr to l.length = o at *
            go_wp2_with fail
            go_loopw [8, 12] (fun v i wr => ∃ (k : Nat) (A2 : Option Addr) (c2 : Nat), k ≤ o.length ∧ i = .int .i64 k ∧ v = .slice A2 k c2 ∧ Vec wr w.heap.size 3 encInt 1 (.slice A2 k c2) (idsK o k) ∧ Vec wr w.heap.size 47 encFile 7 (.slice A' o.length c') o ∧ Below w.heap.size w wr) (fun _ i _ => o.length - (intOf i).toNat)
            case atStart => exact ⟨0, _, 0, Nat.zero_le _, rfl, rfl, by rw [idsK_zero]; exact hmi2, hv, hbx⟩
            case round =>
              clear hmi2 hv
              obtain ⟨k, A2, c2, hk, rfl, rfl, hvi, hvo, hb2⟩ := hrel
              have hsz3 := hb2.size
              by_cases hlt2 : k < o.length
              · obtain ⟨b, off, rfl, hbb, hc0, hc1, hc2, hc3, hc4, hc5, hc6⟩ := (hvo.ls encFile_len).at_File hlt2
                have hki : (k : Int) < (o.length : Int) := by omega
                have Hk := Lib.hid (idsK_succ hlt2)
                have hik := idsK_len (o := o) (k := k) (by omega)
                have hik2 := idsK_len (o := o) (k := k + 1) (by omega)
                have hF1 : (idsK o k).length + [o[k].id].length ≤ maxLen := by unfold maxLen; simp; omega
                have hF2 : ((idsK o k).length + [o[k].id].length) * 8 ≤ 140737488355328 := by simp; omega
                have Hik := Lib.hid hik
                have Hik2 := Lib.hid hik2
                have hap := hvo.apart hvi (by decide)
                clear hik hik2
                go_wp2_with (at_builtin; refine wpList_app rfl (.tmp 94) (.tmp 100) 37 rfl 3 (.int .i64 0) 1 8 Tryd.underlying37 (by kernel_rfl) rfl (by omega) encInt_len one_int A2 c2 (idsK o k) (by rw [Hik.out]; rfl) (by rw [Hik.out]; exact (hvi.alloc _)) (some ⟨wr.heap.size, 0, none⟩) 1 (wr.heap.size + 1) [o[k].id] rfl (Ls.one_at rfl rfl) hF1 hF2 (by simp <;> omega) ?_; intro A4 c4 w3 hv3 hw3)
                rw [← Hk.out, Hik2.out] at hv3
                go_roundw
                case rel =>
                  refine ⟨k + 1, A4, c4, by omega, by go_num, by simp [Hik.out], hv3, (hvo.alloc _).wrA hw3 hap, ?_⟩
                  exact (blw_alloc hb2 _).trans (hw3.below (by simp; omega) (fun q hq => by have := (hvi.block hq).1; omega))
                case measure => simp [intOf]; omega
              · have hkk : k = o.length := by omega
                subst hkk
                have hki : ¬ (o.length : Int) < (o.length : Int) := by omega
                go_wp2_with fail
                go_ret2
                refine ⟨A2, c2, ?_, ?_, hb2⟩
                · rw [Hv.out.1, Hv.out.2, HO.out, idsK_len (Nat.le_refl _)]; rfl
                · rw [Hv.out.2, HO.out, idsK_len (Nat.le_refl _)]; exact hvi

end Go.Proofs.YtlhihdcdbclcbaaDoor
