/- Contracts: AddEvent of the reference, at the list's end; the whole. -/
import Derived.Test.YtnohonedfeacdaaW2h
namespace Go.Proofs.Ytnohonedfeacdaa
set_option linter.unusedVariables false
set_option linter.unusedSimpArgs false
open Go.RowKit
attribute [local go_sem] Aft.cell

set_option maxHeartbeats 8000000 in
theorem c_spec_AddEvent_B (id series made : Int) (A : Option Addr) (c : Nat) (l : List Ev) (k d : Int) (w : World) (hl : Ls w w.heap.size encEv 2 A l) (hm : l.length ≤ 1048576) (hcap : l.length ≤ c) (h1 : recB id series made l = true) (h2 : evB k d = true) (hf : hasE l k = false) (hp : plcE l k = l.length) :
    Calls Try.prog 6 #[.agg #[.int .i64 id, .int .i64 series, .int .i64 made, .slice A l.length c], .agg #[.int .i64 k, .int .i64 d]] w (RetRB w (keepI (addB id series made l (k, d)) id) (keepI (addB id series made l (k, d)) series) (keepI (addB id series made l (k, d)) made) (addL id series made l (k, d)) (addB id series made l (k, d))) := by
  have hB : Below w.heap.size w (((w.alloc (.cells (cellsT id series made (.slice A l.length c)) 30)).alloc (.cells #[.int .i64 k, .int .i64 d] 34)).alloc (.cells (cellsT 0 0 0 (.slice none 0 0)) 30)) := blw_alloc (blw_alloc (blw_alloc (Below.refl w.heap.size w) _) _) _
  have hx0 : Blk (((w.alloc (.cells (cellsT id series made (.slice A l.length c)) 30)).alloc (.cells #[.int .i64 k, .int .i64 d] 34)).alloc (.cells (cellsT 0 0 0 (.slice none 0 0)) 30)) w.heap.size 30 (cellsT id series made (.slice A l.length c)) := ((Blk.new w 30 (cellsT id series made (.slice A l.length c))).alloc _).alloc _
  have he0 : Blk (((w.alloc (.cells (cellsT id series made (.slice A l.length c)) 30)).alloc (.cells #[.int .i64 k, .int .i64 d] 34)).alloc (.cells (cellsT 0 0 0 (.slice none 0 0)) 30)) (w.heap.size + 1) 34 #[.int .i64 k, .int .i64 d] := by
    have h := (Blk.new (w.alloc (.cells (cellsT id series made (.slice A l.length c)) 30)) 34 #[.int .i64 k, .int .i64 d]).alloc (.cells (cellsT 0 0 0 (.slice none 0 0)) 30)
    simpa using h
  have hy0 : Blk (((w.alloc (.cells (cellsT id series made (.slice A l.length c)) 30)).alloc (.cells #[.int .i64 k, .int .i64 d] 34)).alloc (.cells (cellsT 0 0 0 (.slice none 0 0)) 30)) (w.heap.size + 2) 30 (cellsT 0 0 0 (.slice none 0 0)) := by
    have h := Blk.new ((w.alloc (.cells (cellsT id series made (.slice A l.length c)) 30)).alloc (.cells #[.int .i64 k, .int .i64 d] 34)) 30 (cellsT 0 0 0 (.slice none 0 0))
    simpa using h
  have hl0 : Ls (((w.alloc (.cells (cellsT id series made (.slice A l.length c)) 30)).alloc (.cells #[.int .i64 k, .int .i64 d] 34)).alloc (.cells (cellsT 0 0 0 (.slice none 0 0)) 30)) (((w.alloc (.cells (cellsT id series made (.slice A l.length c)) 30)).alloc (.cells #[.int .i64 k, .int .i64 d] 34)).alloc (.cells (cellsT 0 0 0 (.slice none 0 0)) 30)).heap.size encEv 2 A l := (hl.below hB).more hB.size
  have hm' : l.length ≤ 9223372036854775807 := by omega
  have hk0 : k ≠ 0 := by simp [evB] at h2; omega
  have hdv := dayV_neg k h1
  have HPP := Lib.hid hp
  have hd : decide (dayV made l k ≥ 0) = false := by
    have h : decide (dayV made l k < 0) = true := by rw [hdv]; simp [okD, hk0, hf]
    simp at h ⊢; omega
  have Hno := Lib.hid (fun h3 => addB_no (id := id) (series := series) (made := made) (l := l) (e := (k, d)) (.inr (.inr h3)))
  have Hyes := Lib.hid (fun h3 => addB_yes (e := (k, d)) h1 h2 h3)
  have hl6 := (evB_of_rec h1).2.2.1
  have hlen : (l.length : Int) ≤ 1048576 := by omega
  clear hdv hf hk0 hp
  go_enter Try.func6, Try.ntmps6
  go_wp2_with fail
  change Calls Try.prog 22 _ (((w.alloc (.cells (cellsT id series made (.slice A l.length c)) 30)).alloc (.cells #[.int .i64 k, .int .i64 d] 34)).alloc (.cells (cellsT 0 0 0 (.slice none 0 0)) 30)) _
  generalize (((w.alloc (.cells (cellsT id series made (.slice A l.length c)) 30)).alloc (.cells #[.int .i64 k, .int .i64 d] 34)).alloc (.cells (cellsT 0 0 0 (.slice none 0 0)) 30)) = W0 at *
  refine (l2Record_any _ _ _ _ _ l _ hl0 hm').mono ?_
  rw [h1]
  rintro e w1 ⟨rfl, hq1⟩
  have hB1 := blw hB hq1
  have hx1 := hx0.below hq1 hx0.lt
  have he1 := he0.below hq1 he0.lt
  have hy1 := hy0.below hq1 hy0.lt
  have hl1 := (hl0.below hq1).more hq1.size
  have e0 := he1.cell 0
  have e1 := he1.cell 1
  have el := he1.lt
  go_wp2_with fail
  refine (l2Event_any _ _ _).mono ?_
  rw [h2]
  rintro e w2 ⟨rfl, hq2⟩
  clear h1 h2 e0 e1 el
  have hB2 := blw hB1 hq2
  have hx2 := hx1.below hq2 hx1.lt
  have he2 := he1.below hq2 he1.lt
  have hy2 := hy1.below hq2 hy1.lt
  have hl2 := (hl1.below hq2).more hq2.size
  obtain ⟨x0, x1, x2, x3, f0, f1, f2, f3, xl⟩ := hx2.cellsT
  have e0 := he2.cell 0
  have e1 := he2.cell 1
  have el := he2.lt
  clear hx0 he0 hy0 hl0 hx1 he1 hy1 hl1
  go_wp2_with fail
  refine (l2DayOf_any _ _ _ _ _ l _ _ hl2 hm').mono ?_
  generalize dayV made l k = dv at *
  rintro e w3 ⟨rfl, hq3⟩
  clear x0 x1 x2 x3 f0 f1 f2 f3 xl e0 e1 el
  have hB3 := blw hB2 hq3
  have hx3 := hx2.below hq3 hx2.lt
  have he3 := he2.below hq3 he2.lt
  have hy3 := hy2.below hq3 hy2.lt
  have hl3 := (hl2.below hq3).more hq3.size
  go_wp2_with fail
  go_loopw [6] (fun i wr => ∃ n : Nat, n ≤ l.length ∧ i = .int .i64 n ∧ Below w3.heap.size w3 wr ∧ Hid (∀ j (hj : j < l.length), j < n → l[j].1 < k)) (fun i _ => l.length - (intOf i).toNat)
  case atStart => exact ⟨0, Nat.zero_le _, rfl, Below.refl _ _, fun j _ hj => absurd hj (Nat.not_lt_zero _)⟩
  case round =>
    obtain ⟨n, hn, rfl, hb, HB⟩ := hrel
    have hBr := blw hB3 hb
    have hxr := hx3.below hb hx3.lt
    have her := he3.below hb he3.lt
    have hyr := hy3.below hb hy3.lt
    have hlr := (hl3.below hb).more hb.size
    obtain ⟨x0, x1, x2, x3, f0, f1, f2, f3, xl⟩ := hxr.cellsT
    have e0 := her.cell 0
    have e1 := her.cell 1
    have el := her.lt
    have hn0 : (0 : Int) ≤ (n : Int) := by omega
    by_cases hlt : n < l.length
    · obtain ⟨b, off, rfl, hbb, hc0, hc1⟩ := hlr.at_Event hlt
      have hni : (n : Int) < (l.length : Int) := by omega
      have hnd : decide ((n : Int) < (l.length : Int)) = true := by simpa using hni
      cases hbf : decide (l[n].1 < k)
      · have HP := Lib.hid (plcE_at n hn (fun j hj h => HB.out j hj h) (fun _ => by simpa using hbf))
        have := HP.out
        have := HPP.out
        omega
      · have hbt : l[n].1 < k := by simpa using hbf
        go_wp2_with fail
        go_big_region
        go_wp2_with fail
        go_roundw
        case rel => exact ⟨n + 1, by omega, by go_num, hb.drew, fun j hj h => by rcases Nat.lt_or_eq_of_le (Nat.le_of_lt_succ h) with h' | rfl; exact HB.out j hj h'; exact hbt⟩
        case measure => simp [intOf]; omega
    · obtain rfl : n = l.length := by omega
      have hnd : decide ((l.length : Int) < (l.length : Int)) = false := by simp
      have HP := Lib.hid (plcE_at l.length hn (fun j hj h => HB.out j hj h) (fun h => absurd h hlt))
      go_wp2_with fail
      go_big_region
      go_wp2_with fail
      rename_i K0 hK0
      have HT : Hid (∀ (u0 u1 u2 u3 u6 u8 u9 u10 u11 u12 u13 u14 u15 u16 u17 u18 u19 u20 u21 u22 u23 u24 u25 u26 u27 u28 u29 u30 u31 u32 u33 u34 u35 u36 u37 u38 u39 u40 u41 u42 u43 u44 u45 u46 u47 u48 u49 u50 u51 u52 u53 u54 u55 u56 u57 u58 u59 u60 u61 u62 u63 u64 u65 u66 u67 : Value) (A7 : Option Addr) (c7 N7 : Nat) (w8 : World), Blk w8 N7 30 (cellsT id series made (.slice A7 (l.length + 1) c7)) → Vec w8 w.heap.size 34 encEv 2 (.slice A7 (l.length + 1) c7) (insE l (k, d)) → Blk w8 (w.heap.size + 2) 30 (cellsT 0 0 0 (.slice none 0 0)) → Below w.heap.size w w8 → w.heap.size + 2 < N7 → K0 { tmps := #[u0, u1, u2, u3, .pointer (some ⟨w.heap.size + 1 + 1, 0, none⟩), .bool false, u6, .pointer (some ⟨N7, 0, none⟩), u8, u9, u10, u11, u12, u13, u14, u15, u16, u17, u18, u19, u20, u21, u22, u23, u24, u25, u26, u27, u28, u29, u30, u31, u32, u33, u34, u35, u36, u37, u38, u39, u40, u41, u42, u43, u44, u45, u46, u47, u48, u49, u50, u51, u52, u53, u54, u55, u56, u57, u58, u59, u60, u61, u62, u63, u64, u65, u66, u67], defers := [] } w8) := by
        intro u0 u1 u2 u3 u6 u8 u9 u10 u11 u12 u13 u14 u15 u16 u17 u18 u19 u20 u21 u22 u23 u24 u25 u26 u27 u28 u29 u30 u31 u32 u33 u34 u35 u36 u37 u38 u39 u40 u41 u42 u43 u44 u45 u46 u47 u48 u49 u50 u51 u52 u53 u54 u55 u56 u57 u58 u59 u60 u61 u62 u63 u64 u65 u66 u67 A7 c7 N7 w8 ho8 hv8 hy8 hB8 hnN
        apply hK0
        clear hK0
        have hLE := insE_len l (k, d)
        obtain ⟨o0, o1, o2, o3, p0, p1, p2, p3, ol⟩ := ho8.cellsT
        have Hv8 := Lib.hid hv8
        clear hv8
        cases h3 : recB id series made (insE l (k, d))
        · have Hv := Lib.hid (Hno.out h3)
          go_wp2_with fail
          refine (l2Record_n id series made A7 c7 _ (insE l (k, d)) _ hLE ((by have h := Hv8.out.ls encEv_len (A := A7) (n := l.length + 1) (c := c7); exact h)) (by rw [hLE]; omega)).mono ?_
          rw [h3]
          rintro e w9 ⟨rfl, hq9⟩
          have hB9 := blw hB8 hq9
          have hy9 := hy8.below hq9 hy8.lt
          obtain ⟨y0, y1, y2, y3, g0, g1, g2, g3, yl⟩ := hy9.cellsT
          go_wp2_with fail
          refine bodyPost_ret (v := .tuple #[.agg #[.int .i64 0, .int .i64 0, .int .i64 0, .slice none 0 0], .bool false]) (by simp [results, Try.results6, go_sem, yl, y0, y1, y2, y3]) rfl ⟨none, 0, ?_, ?_, ?_⟩
          · rw [Hv.out.1, Hv.out.2]; rfl
          · rw [Hv.out.1]; exact Vec.nil
          · exact ((((hB9.setCell (Nat.le_add_right _ 2) _).setCell (Nat.le_add_right _ 2) _).setCell (Nat.le_add_right _ 2) _).setCell (Nat.le_add_right _ 2) _)
        · have Hv := Lib.hid (Hyes.out h3)
          go_wp2_with fail
          refine (l2Record_n id series made A7 c7 _ (insE l (k, d)) _ hLE ((by have h := Hv8.out.ls encEv_len (A := A7) (n := l.length + 1) (c := c7); exact h)) (by rw [hLE]; omega)).mono ?_
          rw [h3]
          rintro e w9 ⟨rfl, hq9⟩
          have hB9 := blw hB8 hq9
          have hy9 := hy8.below hq9 hy8.lt
          have ho9 := ho8.below hq9 ho8.lt
          have hne9 := (Hv8.out.on hq9).ne_blk2 hy9 (by decide)
          clear o0 o1 o2 o3 p0 p1 p2 p3 ol
          obtain ⟨o0, o1, o2, o3, p0, p1, p2, p3, ol⟩ := ho9.cellsT
          obtain ⟨y0, y1, y2, y3, g0, g1, g2, g3, yl⟩ := hy9.cellsT
          have Hb9 := Lib.hid hq9
          have Hn9 := Lib.hid hne9
          have hns : ¬ w.heap.size + 2 = N7 := by omega
          have hns2 : ¬ N7 = w.heap.size + 2 := by omega
          clear hq9 hne9
          go_wp2_with fail
          refine bodyPost_ret (v := .tuple #[.agg #[.int .i64 id, .int .i64 series, .int .i64 made, .slice A7 (l.length + 1) c7], .bool true]) (by simp [results, Try.results6, go_sem, yl, y0, y1, y2, y3, hns, hns2]) rfl ⟨A7, c7, ?_, ?_, ?_⟩
          · rw [Hv.out.1, Hv.out.2, hLE]; rfl
          · rw [Hv.out.1, hLE]
            have hw := ((((Wr.refl (fun q => q = w.heap.size + 2) w9).setCell (p := ⟨w.heap.size + 2, 0, none⟩) (.inl rfl) (.int .i64 id)).setCell (p := ⟨w.heap.size + 2, 1, none⟩) (.inl rfl) (.int .i64 series)).setCell (p := ⟨w.heap.size + 2, 2, none⟩) (.inl rfl) (.int .i64 made)).setCell (p := ⟨w.heap.size + 2, 3, none⟩) (.inl rfl) (.slice A7 (l.length + 1) c7)
            exact (Hv8.out.on Hb9.out).wr1 hw Hn9.out
          · exact ((((hB9.setCell (Nat.le_add_right _ 2) _).setCell (Nat.le_add_right _ 2) _).setCell (Nat.le_add_right _ 2) _).setCell (Nat.le_add_right _ 2) _)
      have hx7 : Blk wr.drew w.heap.size 30 (cellsT id series made (.slice A l.length c)) := Blk.drew hxr
      have he7 : Blk wr.drew (w.heap.size + 1) 34 #[.int .i64 k, .int .i64 d] := Blk.drew her
      have hy7 : Blk wr.drew (w.heap.size + 2) 30 (cellsT 0 0 0 (.slice none 0 0)) := Blk.drew hyr
      have hB7 : Below w.heap.size w wr.drew := hBr.drew
      have hG : w.heap.size + 2 < wr.drew.heap.size := hy7.lt
      clear x0 x1 x2 x3 f0 f1 f2 f3 xl e0 e1 el hK0
      generalize wr.drew = w7 at *
      have HLs : Hid (∀ W, Below w7.heap.size w7 W → Ls W W.heap.size encEv 2 A l) := fun W hb => (hl.below (hB7.trans (hb.mono (by omega)))).more (hB7.trans (hb.mono (by omega))).size
      have hlk : (l.take (l.length)).length = l.length := by simp; try omega
      have HLt : Hid (∀ W, Below w7.heap.size w7 W → Ls W W.heap.size encEv 2 A (l.take (l.length))) := fun W hb => Ls.take_ (HLs.out W hb) _
      have HE : Hid ((((([] : List Ev) ++ l.take (l.length)) ++ [((k, d) : Ev)]) ++ ([] : List Ev)) = insE l (k, d)) := by unfold Hid insE; rw [HP.out]; simp
      have HL5 : Hid ((([] : List Ev) ++ l.take (l.length)).length = l.length) := hlk
      have HK : Hid (∀ W, Below w7.heap.size w7 W → Below w7.heap.size w7 W ∧ W.cell? ⟨w.heap.size, 0, none⟩ = some (.int .i64 id) ∧ W.cell? ⟨w.heap.size, 1, none⟩ = some (.int .i64 series) ∧ W.cell? ⟨w.heap.size, 2, none⟩ = some (.int .i64 made) ∧ W.cell? ⟨w.heap.size, 3, none⟩ = some (.slice A l.length c) ∧ W.cell? ⟨w.heap.size + 1, 0, none⟩ = some (.int .i64 k) ∧ W.cell? ⟨w.heap.size + 1, 1, none⟩ = some (.int .i64 d)) := fun W hb => ⟨hb, (hb.cell (p := ⟨w.heap.size, 0, none⟩) (by show w.heap.size < _; omega)).trans (hx7.cell 0), (hb.cell (p := ⟨w.heap.size, 1, none⟩) (by show w.heap.size < _; omega)).trans (hx7.cell 1), (hb.cell (p := ⟨w.heap.size, 2, none⟩) (by show w.heap.size < _; omega)).trans (hx7.cell 2), (hb.cell (p := ⟨w.heap.size, 3, none⟩) (by show w.heap.size < _; omega)).trans (hx7.cell 3), (hb.cell (p := ⟨w.heap.size + 1, 0, none⟩) (by show w.heap.size + 1 < _; omega)).trans (he7.cell 0), (hb.cell (p := ⟨w.heap.size + 1, 1, none⟩) (by show w.heap.size + 1 < _; omega)).trans (he7.cell 1)⟩
      refine wp_region_noPanic ?_
      refine wp_region_held_drew (S := fun W => Below w7.heap.size w7 W ∧ W.cell? ⟨w.heap.size, 0, none⟩ = some (.int .i64 id) ∧ W.cell? ⟨w.heap.size, 1, none⟩ = some (.int .i64 series) ∧ W.cell? ⟨w.heap.size, 2, none⟩ = some (.int .i64 made) ∧ W.cell? ⟨w.heap.size, 3, none⟩ = some (.slice A l.length c) ∧ W.cell? ⟨w.heap.size + 1, 0, none⟩ = some (.int .i64 k) ∧ W.cell? ⟨w.heap.size + 1, 1, none⟩ = some (.int .i64 d)) (by kernel_rfl) (HK.out _ (Below.refl _ _).drew) (fun hHeld => ?_)
      generalize w7.drew = v0 at *
      refine wpAnyH_take (i := 0) (v := ?v34) rfl (by kernel_rfl) (by kernel_rfl) (by kernel_rfl) (fun _ _ _ h => h) (Or.inl ⟨by rfl, ?hy34⟩) hHeld ?rest34
      case hy34 => (intro W hSw; (try dsimp only at hSw); go_simp) <;> with_reducible rfl
      try simp only [Act.put, List.setIfInBounds_toArray, List.set_cons_zero, List.set_cons_succ, List.getElem_toArray, List.getElem_cons_succ, List.getElem_cons_zero]
      refine wpAnyH_take (i := 1) (v := ?v35) rfl (by kernel_rfl) (by kernel_rfl) (by kernel_rfl) (fun _ _ _ h => h) (Or.inl ⟨by rfl, ?hy35⟩) hHeld ?rest35
      case hy35 => (intro W hSw; (try dsimp only at hSw); go_simp) <;> with_reducible rfl
      try simp only [Act.put, List.setIfInBounds_toArray, List.set_cons_zero, List.set_cons_succ, List.getElem_toArray, List.getElem_cons_succ, List.getElem_cons_zero]
      refine wpAnyH_take (i := 2) (v := ?v36) rfl (by kernel_rfl) (by kernel_rfl) (by kernel_rfl) (fun _ _ _ h => h) (Or.inl ⟨by rfl, ?hy36⟩) hHeld ?rest36
      case hy36 => (intro W hSw; (try dsimp only at hSw); go_simp) <;> with_reducible rfl
      try simp only [Act.put, List.setIfInBounds_toArray, List.set_cons_zero, List.set_cons_succ, List.getElem_toArray, List.getElem_cons_succ, List.getElem_cons_zero]
      refine wpAnyH_take (i := 3) (v := ?v37) rfl (by kernel_rfl) (by kernel_rfl) (by kernel_rfl) (fun _ _ _ h => h) (Or.inl ⟨by rfl, ?hy37⟩) hHeld ?rest37
      case hy37 => (intro W hSw; (try dsimp only at hSw); go_simp) <;> with_reducible rfl
      try simp only [Act.put, List.setIfInBounds_toArray, List.set_cons_zero, List.set_cons_succ, List.getElem_toArray, List.getElem_cons_succ, List.getElem_cons_zero]
      refine wpAnyH_take (i := 4) (v := ?v38) rfl (by kernel_rfl) (by kernel_rfl) (by kernel_rfl) (fun _ _ _ h => h) (Or.inl ⟨by rfl, ?hy38⟩) hHeld ?rest38
      case hy38 => (intro W hSw; (try dsimp only at hSw); go_simp) <;> with_reducible rfl
      try simp only [Act.put, List.setIfInBounds_toArray, List.set_cons_zero, List.set_cons_succ, List.getElem_toArray, List.getElem_cons_succ, List.getElem_cons_zero]
      refine wpAnyH_take (i := 5) (v := ?v39) rfl (by kernel_rfl) (by kernel_rfl) (by kernel_rfl) (fun _ _ _ h => h) (Or.inl ⟨by rfl, ?hy39⟩) hHeld ?rest39
      case hy39 => (intro W hSw; (try dsimp only at hSw); go_simp) <;> with_reducible rfl
      try simp only [Act.put, List.setIfInBounds_toArray, List.set_cons_zero, List.set_cons_succ, List.getElem_toArray, List.getElem_cons_succ, List.getElem_cons_zero]
      refine wpAnyH_take (i := 7) (v := ?v40) rfl (by kernel_rfl) (by kernel_rfl) (by kernel_rfl) (fun _ _ _ h => h) (Or.inl ⟨by rfl, ?hy40⟩) hHeld ?rest40
      case hy40 => (intro W hSw; (try dsimp only at hSw); go_simp) <;> with_reducible rfl
      try simp only [Act.put, List.setIfInBounds_toArray, List.set_cons_zero, List.set_cons_succ, List.getElem_toArray, List.getElem_cons_succ, List.getElem_cons_zero]
      refine wpAnyH_take (i := 8) (v := ?v41) rfl (by kernel_rfl) (by kernel_rfl) (by kernel_rfl) (fun _ _ _ h => h) (Or.inl ⟨by rfl, ?hy41⟩) hHeld ?rest41
      case hy41 => (intro W hSw; (try dsimp only at hSw); go_simp) <;> with_reducible rfl
      try simp only [Act.put, List.setIfInBounds_toArray, List.set_cons_zero, List.set_cons_succ, List.getElem_toArray, List.getElem_cons_succ, List.getElem_cons_zero]
      refine wpAnyH_take (i := 9) (v := ?v42) rfl (by kernel_rfl) (by kernel_rfl) (by kernel_rfl) (fun _ _ _ h => h) (Or.inl ⟨by rfl, ?hy42⟩) hHeld ?rest42
      case hy42 => (intro W hSw; (try dsimp only at hSw); go_simp) <;> with_reducible rfl
      try simp only [Act.put, List.setIfInBounds_toArray, List.set_cons_zero, List.set_cons_succ, List.getElem_toArray, List.getElem_cons_succ, List.getElem_cons_zero]
      refine wpAnyH_take (i := 10) (v := ?v43) rfl (by kernel_rfl) (by kernel_rfl) (by kernel_rfl) (fun _ _ _ h => h) (Or.inl ⟨by rfl, ?hy43⟩) hHeld ?rest43
      case hy43 => (intro W hSw; (try dsimp only at hSw); go_simp) <;> with_reducible rfl
      try simp only [Act.put, List.setIfInBounds_toArray, List.set_cons_zero, List.set_cons_succ, List.getElem_toArray, List.getElem_cons_succ, List.getElem_cons_zero]
      refine wpAnyH_take (i := 12) (v := ?v44) rfl (by kernel_rfl) (by kernel_rfl) (by kernel_rfl) (fun _ _ _ h => h) (Or.inl ⟨by rfl, ?hy44⟩) hHeld ?rest44
      case hy44 => (intro W hSw; (try dsimp only at hSw); go_simp) <;> with_reducible rfl
      try simp only [Act.put, List.setIfInBounds_toArray, List.set_cons_zero, List.set_cons_succ, List.getElem_toArray, List.getElem_cons_succ, List.getElem_cons_zero]
      refine wpAnyH_take (i := 15) (v := ?v45) rfl (by kernel_rfl) (by kernel_rfl) (by kernel_rfl) (fun _ _ _ h => h) (Or.inl ⟨by rfl, ?hy45⟩) hHeld ?rest45
      case hy45 => (intro W hSw; (try dsimp only at hSw); go_simp) <;> with_reducible rfl
      try simp only [Act.put, List.setIfInBounds_toArray, List.set_cons_zero, List.set_cons_succ, List.getElem_toArray, List.getElem_cons_succ, List.getElem_cons_zero]
      refine wpAnyH_take (i := 16) (v := ?v46) rfl (by kernel_rfl) (by kernel_rfl) (by kernel_rfl) (fun _ _ _ h => h) (Or.inl ⟨by rfl, ?hy46⟩) hHeld ?rest46
      case hy46 => (intro W hSw; (try dsimp only at hSw); go_simp) <;> with_reducible rfl
      try simp only [Act.put, List.setIfInBounds_toArray, List.set_cons_zero, List.set_cons_succ, List.getElem_toArray, List.getElem_cons_succ, List.getElem_cons_zero]
      refine wpAnyH_take (i := 17) (v := ?v47) rfl (by kernel_rfl) (by kernel_rfl) (by kernel_rfl) (fun _ _ _ h => h) (Or.inl ⟨by rfl, ?hy47⟩) hHeld ?rest47
      case hy47 => (intro W hSw; (try dsimp only at hSw); go_simp) <;> with_reducible rfl
      try simp only [Act.put, List.setIfInBounds_toArray, List.set_cons_zero, List.set_cons_succ, List.getElem_toArray, List.getElem_cons_succ, List.getElem_cons_zero]
      refine wpAnyH_take (i := 18) (v := ?v48) rfl (by kernel_rfl) (by kernel_rfl) (by kernel_rfl) (fun _ _ _ h => h) (Or.inl ⟨by rfl, ?hy48⟩) hHeld ?rest48
      case hy48 => (intro W hSw; (try dsimp only at hSw); go_simp) <;> with_reducible rfl
      try simp only [Act.put, List.setIfInBounds_toArray, List.set_cons_zero, List.set_cons_succ, List.getElem_toArray, List.getElem_cons_succ, List.getElem_cons_zero]
      refine wpAnyH_ready (rs := [6, 13, 21]) (by kernel_rfl) (by simp) ?_
      refine AllReadyH.cons rfl (fun K hK => ?_) (AllReadyH.cons rfl (fun K hK => ?_) (AllReadyH.cons rfl (fun K hK => ?_) AllReadyH.nil))
      · go_simp
        refine hK.out _ _ (HK.out _ (Below.alloc hHeld.1 hHeld.1.size _)) (fun hH2 => ?_)
        have hzN0 : w7.heap.size ≤ v0.heap.size := hHeld.1.size
        clear hK K hHeld
        have hHeld := hH2
        clear hH2
        have b0 : Blk (v0.alloc (.cells #[] 34)) v0.heap.size 34 #[] := Blk.new v0 34 #[]
        generalize (v0.alloc (.cells #[] 34)) = v1 at *
        generalize v0.heap.size = N0 at *
        try simp only [Act.put, List.setIfInBounds_toArray, List.set_cons_zero, List.set_cons_succ, List.getElem_toArray, List.getElem_cons_succ, List.getElem_cons_zero]
        refine wpAnyH_ready (rs := [11, 13, 21]) (by kernel_rfl) (by simp) ?_
        refine AllReadyH.cons rfl (fun K hK => ?_) (AllReadyH.cons rfl (fun K hK => ?_) (AllReadyH.cons rfl (fun K hK => ?_) AllReadyH.nil))
        · refine step_appN (base := w7.heap.size) rfl (.tmp 48) (.tmp 52) 28 rfl 34 (.agg #[.int .i64 0, .int .i64 0]) 2 16 Try.underlying28 (by kernel_rfl) rfl (by omega) encEv_len one_ev _ 0 0 ([] : List Ev) rfl rfl (Vec.empty_at (base := w7.heap.size) b0 hzN0) A c _ (l.length) (l.take (l.length)) hlk rfl (HLt.out _ hHeld.1) (by unfold maxLen; omega) (by omega) hHeld.1.size (l.length) (by omega) ?_
          intro A5 c5 v2 hv5 hw5
          have hwi := hw5.below (B := w7.heap.size) hHeld.1.size (fun q hq => by obtain ⟨_, hx⟩ := hq; cases hx; exact hzN0)
          refine hK.out _ _ (HK.out _ (hHeld.1.trans hwi)) (fun hH2 => ?_)
          clear hK K hHeld
          have hHeld := hH2
          clear hH2
          clear hwi
          try simp only [Act.put, List.setIfInBounds_toArray, List.set_cons_zero, List.set_cons_succ, List.getElem_toArray, List.getElem_cons_succ, List.getElem_cons_zero]
          refine wpAnyH_ready (rs := [13, 21]) (by kernel_rfl) (by simp) ?_
          refine AllReadyH.cons rfl (fun K hK => ?_) (AllReadyH.cons rfl (fun K hK => ?_) AllReadyH.nil)
          · go_simp
            refine hK.out _ _ (HK.out _ (Below.alloc hHeld.1 hHeld.1.size _)) (fun hH2 => ?_)
            have hzN1 : w7.heap.size ≤ v2.heap.size := hHeld.1.size
            clear hK K hHeld
            have hHeld := hH2
            clear hH2
            replace hv5 := hv5.alloc (.cells #[.int .i64 k, .int .i64 d] 34)
            have b1 : Blk (v2.alloc (.cells #[.int .i64 k, .int .i64 d] 34)) v2.heap.size 34 #[.int .i64 k, .int .i64 d] := Blk.new v2 34 #[.int .i64 k, .int .i64 d]
            generalize (v2.alloc (.cells #[.int .i64 k, .int .i64 d] 34)) = v3 at *
            generalize v2.heap.size = N1 at *
            try simp only [Act.put, List.setIfInBounds_toArray, List.set_cons_zero, List.set_cons_succ, List.getElem_toArray, List.getElem_cons_succ, List.getElem_cons_zero]
            refine wpAnyH_ready (rs := [14, 21]) (by kernel_rfl) (by simp) ?_
            refine AllReadyH.cons rfl (fun K hK => ?_) (AllReadyH.cons rfl (fun K hK => ?_) AllReadyH.nil)
            · refine step_appN (base := w7.heap.size) rfl (.tmp 53) (.tmp 55) 28 rfl 34 (.agg #[.int .i64 0, .int .i64 0]) 2 16 Try.underlying28 (by kernel_rfl) rfl (by omega) encEv_len one_ev A5 c5 (l.length) (([] : List Ev) ++ l.take (l.length)) HL5.out rfl hv5 _ 1 _ 1 [((k, d) : Ev)] rfl rfl (Ls.blkc b1 rfl) (by unfold maxLen; omega) (by omega) hHeld.1.size (l.length + 1) (by omega) ?_
              intro A6 c6 v4 hv6 hw6
              have hwi := hw6.below (B := w7.heap.size) hHeld.1.size (fun q hq => (hv5.block hq).1)
              refine hK.out _ _ (HK.out _ (hHeld.1.trans hwi)) (fun hH2 => ?_)
              clear hK K hHeld
              have hHeld := hH2
              clear hH2
              clear hwi
              try simp only [Act.put, List.setIfInBounds_toArray, List.set_cons_zero, List.set_cons_succ, List.getElem_toArray, List.getElem_cons_succ, List.getElem_cons_zero]
              refine wpAnyH_ready (rs := [19, 21]) (by kernel_rfl) (by simp) ?_
              refine AllReadyH.cons rfl (fun K hK => ?_) (AllReadyH.cons rfl (fun K hK => ?_) AllReadyH.nil)
              · refine step_appN (base := w7.heap.size) rfl (.tmp 56) (.tmp 60) 28 rfl 34 (.agg #[.int .i64 0, .int .i64 0]) 2 16 Try.underlying28 (by kernel_rfl) rfl (by omega) encEv_len one_ev A6 c6 (l.length + 1) ((([] : List Ev) ++ l.take (l.length)) ++ [((k, d) : Ev)]) (by rw [List.length_append, HL5.out]; rfl) rfl hv6 _ _ 0 0 ([] : List Ev) rfl rfl (Ls.none_ (A := _) (B := 0)) (by unfold maxLen; omega) (by omega) hHeld.1.size (l.length + 1) (by omega) ?_
                intro A7 c7 v5 hv7 hw7
                have hwi := hw7.below (B := w7.heap.size) hHeld.1.size (fun q hq => (hv6.block hq).1)
                refine hK.out _ _ (HK.out _ (hHeld.1.trans hwi)) (fun hH2 => ?_)
                clear hK K hHeld
                have hHeld := hH2
                clear hH2
                clear hwi
                try simp only [Act.put, List.setIfInBounds_toArray, List.set_cons_zero, List.set_cons_succ, List.getElem_toArray, List.getElem_cons_succ, List.getElem_cons_zero]
                refine wpAnyH_take (i := 20) (v := ?v49) rfl (by kernel_rfl) (by kernel_rfl) (by kernel_rfl) (fun _ _ _ h => h) (Or.inl ⟨by rfl, ?hy49⟩) hHeld ?rest49
                case hy49 => (intro W hSw; (try dsimp only at hSw); go_simp) <;> with_reducible rfl
                try simp only [Act.put, List.setIfInBounds_toArray, List.set_cons_zero, List.set_cons_succ, List.getElem_toArray, List.getElem_cons_succ, List.getElem_cons_zero]
                refine wpAnyH_ready (rs := [21]) (by kernel_rfl) (by simp) ?_
                refine AllReadyH.cons rfl (fun K hK => ?_) AllReadyH.nil
                go_simp
                refine hK.out _ _ (HK.out _ (Below.alloc hHeld.1 hHeld.1.size _)) (fun hH2 => ?_)
                have hzN7 : w7.heap.size ≤ v5.heap.size := hHeld.1.size
                clear hK K hHeld
                have hHeld := hH2
                clear hH2
                replace hv7 := hv7.alloc (.cells #[.int .i64 0, .int .i64 0, .int .i64 0, .slice none 0 0] 30)
                have b7 : Blk (v5.alloc (.cells #[.int .i64 0, .int .i64 0, .int .i64 0, .slice none 0 0] 30)) v5.heap.size 30 #[.int .i64 0, .int .i64 0, .int .i64 0, .slice none 0 0] := Blk.new v5 30 #[.int .i64 0, .int .i64 0, .int .i64 0, .slice none 0 0]
                generalize (v5.alloc (.cells #[.int .i64 0, .int .i64 0, .int .i64 0, .slice none 0 0] 30)) = v6 at *
                generalize v5.heap.size = N7 at *
                try simp only [Act.put, List.setIfInBounds_toArray, List.set_cons_zero, List.set_cons_succ, List.getElem_toArray, List.getElem_cons_succ, List.getElem_cons_zero]
                refine wpAnyH_ready (rs := [22]) (by kernel_rfl) (by simp) ?_
                refine AllReadyH.cons rfl (fun K hK => ?_) AllReadyH.nil
                have c70 := b7.cell 0
                have c71 := b7.cell 1
                have c72 := b7.cell 2
                have c73 := b7.cell 3
                have f70 := b7.frozen 0
                have f71 := b7.frozen 1
                have f72 := b7.frozen 2
                have f73 := b7.frozen 3
                go_simp
                refine hK.out _ _ (HK.out _ (Below.setCell (Below.setCell (Below.setCell (Below.setCell hHeld.1 (p := ⟨N7, 0, none⟩) hzN7 (.int .i64 id)) (p := ⟨N7, 1, none⟩) hzN7 (.int .i64 series)) (p := ⟨N7, 2, none⟩) hzN7 (.int .i64 made)) (p := ⟨N7, 3, none⟩) hzN7 (.slice A7 (l.length + 1) c7))) (fun hH2 => ?_)
                clear hK K hHeld
                have hHeld := hH2
                clear hH2
                have hwr : Wr (fun q => q = N7) v6 ((((v6.setCell ⟨N7, 0, none⟩ (.int .i64 id)).setCell ⟨N7, 1, none⟩ (.int .i64 series)).setCell ⟨N7, 2, none⟩ (.int .i64 made)).setCell ⟨N7, 3, none⟩ (.slice A7 (l.length + 1) c7)) := (Wr.setCell (p := ⟨N7, 3, none⟩) (Wr.setCell (p := ⟨N7, 2, none⟩) (Wr.setCell (p := ⟨N7, 1, none⟩) (Wr.setCell (p := ⟨N7, 0, none⟩) (Wr.refl (fun q => q = N7) v6) (.inl rfl) (.int .i64 id)) (.inl rfl) (.int .i64 series)) (.inl rfl) (.int .i64 made)) (.inl rfl) (.slice A7 (l.length + 1) c7))
                have ho8 : Blk ((((v6.setCell ⟨N7, 0, none⟩ (.int .i64 id)).setCell ⟨N7, 1, none⟩ (.int .i64 series)).setCell ⟨N7, 2, none⟩ (.int .i64 made)).setCell ⟨N7, 3, none⟩ (.slice A7 (l.length + 1) c7)) N7 30 (cellsT id series made (.slice A7 (l.length + 1) c7)) := by
                  have h := (Blk.set_ (Blk.set_ (Blk.set_ (Blk.set_ b7 0 (.int .i64 id)) 1 (.int .i64 series)) 2 (.int .i64 made)) 3 (.slice A7 (l.length + 1) c7))
                  simpa [cellsT] using h
                have hv8 := hv7.wr1 hwr (hv7.ne_blk2 b7 (by decide))
                try simp only [Act.put, List.setIfInBounds_toArray, List.set_cons_zero, List.set_cons_succ, List.getElem_toArray, List.getElem_cons_succ, List.getElem_cons_zero]
                refine wpAnyH_done (by kernel_rfl) ?_ _
                refine NoPanic.normal ?_
                have hB8 := hB7.trans (hHeld.1.mono (show w.heap.size ≤ w7.heap.size by omega))
                rw [HE.out] at hv8
                exact HT.out _ _ _ _ _ _ _ _ _ _ _ _ _ _ _ _ _ _ _ _ _ _ _ _ _ _ _ _ _ _ _ _ _ _ _ _ _ _ _ _ _ _ _ _ _ _ _ _ _ _ _ _ _ _ _ _ _ _ _ _ _ _ _ _ _ _ _ _ _ ho8 (hv8.mono (by omega)) (hy7.below hHeld.1 (by omega)) hB8 (by omega)
              · go_simp
                refine hK.out _ _ (HK.out _ (Below.alloc hHeld.1 hHeld.1.size _)) (fun hH2 => ?_)
                have hzN7 : w7.heap.size ≤ v4.heap.size := hHeld.1.size
                clear hK K hHeld
                have hHeld := hH2
                clear hH2
                replace hv6 := hv6.alloc (.cells #[.int .i64 0, .int .i64 0, .int .i64 0, .slice none 0 0] 30)
                have b7 : Blk (v4.alloc (.cells #[.int .i64 0, .int .i64 0, .int .i64 0, .slice none 0 0] 30)) v4.heap.size 30 #[.int .i64 0, .int .i64 0, .int .i64 0, .slice none 0 0] := Blk.new v4 30 #[.int .i64 0, .int .i64 0, .int .i64 0, .slice none 0 0]
                generalize (v4.alloc (.cells #[.int .i64 0, .int .i64 0, .int .i64 0, .slice none 0 0] 30)) = v8 at *
                generalize v4.heap.size = N7 at *
                try simp only [Act.put, List.setIfInBounds_toArray, List.set_cons_zero, List.set_cons_succ, List.getElem_toArray, List.getElem_cons_succ, List.getElem_cons_zero]
                refine wpAnyH_ready (rs := [19]) (by kernel_rfl) (by simp) ?_
                refine AllReadyH.cons rfl (fun K hK => ?_) AllReadyH.nil
                refine step_appN (base := w7.heap.size) rfl (.tmp 56) (.tmp 60) 28 rfl 34 (.agg #[.int .i64 0, .int .i64 0]) 2 16 Try.underlying28 (by kernel_rfl) rfl (by omega) encEv_len one_ev A6 c6 (l.length + 1) ((([] : List Ev) ++ l.take (l.length)) ++ [((k, d) : Ev)]) (by rw [List.length_append, HL5.out]; rfl) rfl hv6 _ _ 0 0 ([] : List Ev) rfl rfl (Ls.none_ (A := _) (B := 0)) (by unfold maxLen; omega) (by omega) hHeld.1.size (l.length + 1) (by omega) ?_
                intro A7 c7 v9 hv7 hw7
                have hwi := hw7.below (B := w7.heap.size) hHeld.1.size (fun q hq => (hv6.block hq).1)
                replace b7 := b7.wr hw7 (hv6.ne_blk2 b7 (by decide))
                refine hK.out _ _ (HK.out _ (hHeld.1.trans hwi)) (fun hH2 => ?_)
                clear hK K hHeld
                have hHeld := hH2
                clear hH2
                clear hwi
                try simp only [Act.put, List.setIfInBounds_toArray, List.set_cons_zero, List.set_cons_succ, List.getElem_toArray, List.getElem_cons_succ, List.getElem_cons_zero]
                refine wpAnyH_take (i := 20) (v := ?v50) rfl (by kernel_rfl) (by kernel_rfl) (by kernel_rfl) (fun _ _ _ h => h) (Or.inl ⟨by rfl, ?hy50⟩) hHeld ?rest50
                case hy50 => (intro W hSw; (try dsimp only at hSw); go_simp) <;> with_reducible rfl
                try simp only [Act.put, List.setIfInBounds_toArray, List.set_cons_zero, List.set_cons_succ, List.getElem_toArray, List.getElem_cons_succ, List.getElem_cons_zero]
                refine wpAnyH_ready (rs := [22]) (by kernel_rfl) (by simp) ?_
                refine AllReadyH.cons rfl (fun K hK => ?_) AllReadyH.nil
                have c70 := b7.cell 0
                have c71 := b7.cell 1
                have c72 := b7.cell 2
                have c73 := b7.cell 3
                have f70 := b7.frozen 0
                have f71 := b7.frozen 1
                have f72 := b7.frozen 2
                have f73 := b7.frozen 3
                go_simp
                refine hK.out _ _ (HK.out _ (Below.setCell (Below.setCell (Below.setCell (Below.setCell hHeld.1 (p := ⟨N7, 0, none⟩) hzN7 (.int .i64 id)) (p := ⟨N7, 1, none⟩) hzN7 (.int .i64 series)) (p := ⟨N7, 2, none⟩) hzN7 (.int .i64 made)) (p := ⟨N7, 3, none⟩) hzN7 (.slice A7 (l.length + 1) c7))) (fun hH2 => ?_)
                clear hK K hHeld
                have hHeld := hH2
                clear hH2
                have hwr : Wr (fun q => q = N7) v9 ((((v9.setCell ⟨N7, 0, none⟩ (.int .i64 id)).setCell ⟨N7, 1, none⟩ (.int .i64 series)).setCell ⟨N7, 2, none⟩ (.int .i64 made)).setCell ⟨N7, 3, none⟩ (.slice A7 (l.length + 1) c7)) := (Wr.setCell (p := ⟨N7, 3, none⟩) (Wr.setCell (p := ⟨N7, 2, none⟩) (Wr.setCell (p := ⟨N7, 1, none⟩) (Wr.setCell (p := ⟨N7, 0, none⟩) (Wr.refl (fun q => q = N7) v9) (.inl rfl) (.int .i64 id)) (.inl rfl) (.int .i64 series)) (.inl rfl) (.int .i64 made)) (.inl rfl) (.slice A7 (l.length + 1) c7))
                have ho8 : Blk ((((v9.setCell ⟨N7, 0, none⟩ (.int .i64 id)).setCell ⟨N7, 1, none⟩ (.int .i64 series)).setCell ⟨N7, 2, none⟩ (.int .i64 made)).setCell ⟨N7, 3, none⟩ (.slice A7 (l.length + 1) c7)) N7 30 (cellsT id series made (.slice A7 (l.length + 1) c7)) := by
                  have h := (Blk.set_ (Blk.set_ (Blk.set_ (Blk.set_ b7 0 (.int .i64 id)) 1 (.int .i64 series)) 2 (.int .i64 made)) 3 (.slice A7 (l.length + 1) c7))
                  simpa [cellsT] using h
                have hv8 := hv7.wr1 hwr (hv7.ne_blk2 b7 (by decide))
                try simp only [Act.put, List.setIfInBounds_toArray, List.set_cons_zero, List.set_cons_succ, List.getElem_toArray, List.getElem_cons_succ, List.getElem_cons_zero]
                refine wpAnyH_done (by kernel_rfl) ?_ _
                refine NoPanic.normal ?_
                have hB8 := hB7.trans (hHeld.1.mono (show w.heap.size ≤ w7.heap.size by omega))
                rw [HE.out] at hv8
                exact HT.out _ _ _ _ _ _ _ _ _ _ _ _ _ _ _ _ _ _ _ _ _ _ _ _ _ _ _ _ _ _ _ _ _ _ _ _ _ _ _ _ _ _ _ _ _ _ _ _ _ _ _ _ _ _ _ _ _ _ _ _ _ _ _ _ _ _ _ _ _ ho8 (hv8.mono (by omega)) (hy7.below hHeld.1 (by omega)) hB8 (by omega)
            · go_simp
              refine hK.out _ _ (HK.out _ (Below.alloc hHeld.1 hHeld.1.size _)) (fun hH2 => ?_)
              have hzN7 : w7.heap.size ≤ v3.heap.size := hHeld.1.size
              clear hK K hHeld
              have hHeld := hH2
              clear hH2
              have lt_N1_N7 : N1 < v3.heap.size := b1.lt
              replace b1 := b1.alloc (.cells #[.int .i64 0, .int .i64 0, .int .i64 0, .slice none 0 0] 30)
              replace hv5 := hv5.alloc (.cells #[.int .i64 0, .int .i64 0, .int .i64 0, .slice none 0 0] 30)
              have b7 : Blk (v3.alloc (.cells #[.int .i64 0, .int .i64 0, .int .i64 0, .slice none 0 0] 30)) v3.heap.size 30 #[.int .i64 0, .int .i64 0, .int .i64 0, .slice none 0 0] := Blk.new v3 30 #[.int .i64 0, .int .i64 0, .int .i64 0, .slice none 0 0]
              generalize (v3.alloc (.cells #[.int .i64 0, .int .i64 0, .int .i64 0, .slice none 0 0] 30)) = v11 at *
              generalize v3.heap.size = N7 at *
              try simp only [Act.put, List.setIfInBounds_toArray, List.set_cons_zero, List.set_cons_succ, List.getElem_toArray, List.getElem_cons_succ, List.getElem_cons_zero]
              refine wpAnyH_ready (rs := [14]) (by kernel_rfl) (by simp) ?_
              refine AllReadyH.cons rfl (fun K hK => ?_) AllReadyH.nil
              refine step_appN (base := w7.heap.size) rfl (.tmp 53) (.tmp 55) 28 rfl 34 (.agg #[.int .i64 0, .int .i64 0]) 2 16 Try.underlying28 (by kernel_rfl) rfl (by omega) encEv_len one_ev A5 c5 (l.length) (([] : List Ev) ++ l.take (l.length)) HL5.out rfl hv5 _ 1 _ 1 [((k, d) : Ev)] rfl rfl (Ls.blkc b1 rfl) (by unfold maxLen; omega) (by omega) hHeld.1.size (l.length + 1) (by omega) ?_
              intro A6 c6 v12 hv6 hw6
              have hwi := hw6.below (B := w7.heap.size) hHeld.1.size (fun q hq => (hv5.block hq).1)
              replace b7 := b7.wr hw6 (hv5.ne_blk2 b7 (by decide))
              refine hK.out _ _ (HK.out _ (hHeld.1.trans hwi)) (fun hH2 => ?_)
              clear hK K hHeld
              have hHeld := hH2
              clear hH2
              clear hwi
              try simp only [Act.put, List.setIfInBounds_toArray, List.set_cons_zero, List.set_cons_succ, List.getElem_toArray, List.getElem_cons_succ, List.getElem_cons_zero]
              refine wpAnyH_ready (rs := [19]) (by kernel_rfl) (by simp) ?_
              refine AllReadyH.cons rfl (fun K hK => ?_) AllReadyH.nil
              refine step_appN (base := w7.heap.size) rfl (.tmp 56) (.tmp 60) 28 rfl 34 (.agg #[.int .i64 0, .int .i64 0]) 2 16 Try.underlying28 (by kernel_rfl) rfl (by omega) encEv_len one_ev A6 c6 (l.length + 1) ((([] : List Ev) ++ l.take (l.length)) ++ [((k, d) : Ev)]) (by rw [List.length_append, HL5.out]; rfl) rfl hv6 _ _ 0 0 ([] : List Ev) rfl rfl (Ls.none_ (A := _) (B := 0)) (by unfold maxLen; omega) (by omega) hHeld.1.size (l.length + 1) (by omega) ?_
              intro A7 c7 v13 hv7 hw7
              have hwi := hw7.below (B := w7.heap.size) hHeld.1.size (fun q hq => (hv6.block hq).1)
              replace b7 := b7.wr hw7 (hv6.ne_blk2 b7 (by decide))
              refine hK.out _ _ (HK.out _ (hHeld.1.trans hwi)) (fun hH2 => ?_)
              clear hK K hHeld
              have hHeld := hH2
              clear hH2
              clear hwi
              try simp only [Act.put, List.setIfInBounds_toArray, List.set_cons_zero, List.set_cons_succ, List.getElem_toArray, List.getElem_cons_succ, List.getElem_cons_zero]
              refine wpAnyH_take (i := 20) (v := ?v51) rfl (by kernel_rfl) (by kernel_rfl) (by kernel_rfl) (fun _ _ _ h => h) (Or.inl ⟨by rfl, ?hy51⟩) hHeld ?rest51
              case hy51 => (intro W hSw; (try dsimp only at hSw); go_simp) <;> with_reducible rfl
              try simp only [Act.put, List.setIfInBounds_toArray, List.set_cons_zero, List.set_cons_succ, List.getElem_toArray, List.getElem_cons_succ, List.getElem_cons_zero]
              refine wpAnyH_ready (rs := [22]) (by kernel_rfl) (by simp) ?_
              refine AllReadyH.cons rfl (fun K hK => ?_) AllReadyH.nil
              have c70 := b7.cell 0
              have c71 := b7.cell 1
              have c72 := b7.cell 2
              have c73 := b7.cell 3
              have f70 := b7.frozen 0
              have f71 := b7.frozen 1
              have f72 := b7.frozen 2
              have f73 := b7.frozen 3
              go_simp
              refine hK.out _ _ (HK.out _ (Below.setCell (Below.setCell (Below.setCell (Below.setCell hHeld.1 (p := ⟨N7, 0, none⟩) hzN7 (.int .i64 id)) (p := ⟨N7, 1, none⟩) hzN7 (.int .i64 series)) (p := ⟨N7, 2, none⟩) hzN7 (.int .i64 made)) (p := ⟨N7, 3, none⟩) hzN7 (.slice A7 (l.length + 1) c7))) (fun hH2 => ?_)
              clear hK K hHeld
              have hHeld := hH2
              clear hH2
              have hwr : Wr (fun q => q = N7) v13 ((((v13.setCell ⟨N7, 0, none⟩ (.int .i64 id)).setCell ⟨N7, 1, none⟩ (.int .i64 series)).setCell ⟨N7, 2, none⟩ (.int .i64 made)).setCell ⟨N7, 3, none⟩ (.slice A7 (l.length + 1) c7)) := (Wr.setCell (p := ⟨N7, 3, none⟩) (Wr.setCell (p := ⟨N7, 2, none⟩) (Wr.setCell (p := ⟨N7, 1, none⟩) (Wr.setCell (p := ⟨N7, 0, none⟩) (Wr.refl (fun q => q = N7) v13) (.inl rfl) (.int .i64 id)) (.inl rfl) (.int .i64 series)) (.inl rfl) (.int .i64 made)) (.inl rfl) (.slice A7 (l.length + 1) c7))
              have ho8 : Blk ((((v13.setCell ⟨N7, 0, none⟩ (.int .i64 id)).setCell ⟨N7, 1, none⟩ (.int .i64 series)).setCell ⟨N7, 2, none⟩ (.int .i64 made)).setCell ⟨N7, 3, none⟩ (.slice A7 (l.length + 1) c7)) N7 30 (cellsT id series made (.slice A7 (l.length + 1) c7)) := by
                have h := (Blk.set_ (Blk.set_ (Blk.set_ (Blk.set_ b7 0 (.int .i64 id)) 1 (.int .i64 series)) 2 (.int .i64 made)) 3 (.slice A7 (l.length + 1) c7))
                simpa [cellsT] using h
              have hv8 := hv7.wr1 hwr (hv7.ne_blk2 b7 (by decide))
              try simp only [Act.put, List.setIfInBounds_toArray, List.set_cons_zero, List.set_cons_succ, List.getElem_toArray, List.getElem_cons_succ, List.getElem_cons_zero]
              refine wpAnyH_done (by kernel_rfl) ?_ _
              refine NoPanic.normal ?_
              have hB8 := hB7.trans (hHeld.1.mono (show w.heap.size ≤ w7.heap.size by omega))
              rw [HE.out] at hv8
              exact HT.out _ _ _ _ _ _ _ _ _ _ _ _ _ _ _ _ _ _ _ _ _ _ _ _ _ _ _ _ _ _ _ _ _ _ _ _ _ _ _ _ _ _ _ _ _ _ _ _ _ _ _ _ _ _ _ _ _ _ _ _ _ _ _ _ _ _ _ _ _ ho8 (hv8.mono (by omega)) (hy7.below hHeld.1 (by omega)) hB8 (by omega)
          · go_simp
            refine hK.out _ _ (HK.out _ (Below.alloc hHeld.1 hHeld.1.size _)) (fun hH2 => ?_)
            have hzN7 : w7.heap.size ≤ v2.heap.size := hHeld.1.size
            clear hK K hHeld
            have hHeld := hH2
            clear hH2
            replace hv5 := hv5.alloc (.cells #[.int .i64 0, .int .i64 0, .int .i64 0, .slice none 0 0] 30)
            have b7 : Blk (v2.alloc (.cells #[.int .i64 0, .int .i64 0, .int .i64 0, .slice none 0 0] 30)) v2.heap.size 30 #[.int .i64 0, .int .i64 0, .int .i64 0, .slice none 0 0] := Blk.new v2 30 #[.int .i64 0, .int .i64 0, .int .i64 0, .slice none 0 0]
            generalize (v2.alloc (.cells #[.int .i64 0, .int .i64 0, .int .i64 0, .slice none 0 0] 30)) = v15 at *
            generalize v2.heap.size = N7 at *
            try simp only [Act.put, List.setIfInBounds_toArray, List.set_cons_zero, List.set_cons_succ, List.getElem_toArray, List.getElem_cons_succ, List.getElem_cons_zero]
            refine wpAnyH_ready (rs := [13]) (by kernel_rfl) (by simp) ?_
            refine AllReadyH.cons rfl (fun K hK => ?_) AllReadyH.nil
            go_simp
            refine hK.out _ _ (HK.out _ (Below.alloc hHeld.1 hHeld.1.size _)) (fun hH2 => ?_)
            have hzN1 : w7.heap.size ≤ v15.heap.size := hHeld.1.size
            clear hK K hHeld
            have hHeld := hH2
            clear hH2
            have lt_N7_N1 : N7 < v15.heap.size := b7.lt
            replace b7 := b7.alloc (.cells #[.int .i64 k, .int .i64 d] 34)
            replace hv5 := hv5.alloc (.cells #[.int .i64 k, .int .i64 d] 34)
            have b1 : Blk (v15.alloc (.cells #[.int .i64 k, .int .i64 d] 34)) v15.heap.size 34 #[.int .i64 k, .int .i64 d] := Blk.new v15 34 #[.int .i64 k, .int .i64 d]
            generalize (v15.alloc (.cells #[.int .i64 k, .int .i64 d] 34)) = v16 at *
            generalize v15.heap.size = N1 at *
            try simp only [Act.put, List.setIfInBounds_toArray, List.set_cons_zero, List.set_cons_succ, List.getElem_toArray, List.getElem_cons_succ, List.getElem_cons_zero]
            refine wpAnyH_ready (rs := [14]) (by kernel_rfl) (by simp) ?_
            refine AllReadyH.cons rfl (fun K hK => ?_) AllReadyH.nil
            refine step_appN (base := w7.heap.size) rfl (.tmp 53) (.tmp 55) 28 rfl 34 (.agg #[.int .i64 0, .int .i64 0]) 2 16 Try.underlying28 (by kernel_rfl) rfl (by omega) encEv_len one_ev A5 c5 (l.length) (([] : List Ev) ++ l.take (l.length)) HL5.out rfl hv5 _ 1 _ 1 [((k, d) : Ev)] rfl rfl (Ls.blkc b1 rfl) (by unfold maxLen; omega) (by omega) hHeld.1.size (l.length + 1) (by omega) ?_
            intro A6 c6 v17 hv6 hw6
            have hwi := hw6.below (B := w7.heap.size) hHeld.1.size (fun q hq => (hv5.block hq).1)
            replace b7 := b7.wr hw6 (hv5.ne_blk2 b7 (by decide))
            refine hK.out _ _ (HK.out _ (hHeld.1.trans hwi)) (fun hH2 => ?_)
            clear hK K hHeld
            have hHeld := hH2
            clear hH2
            clear hwi
            try simp only [Act.put, List.setIfInBounds_toArray, List.set_cons_zero, List.set_cons_succ, List.getElem_toArray, List.getElem_cons_succ, List.getElem_cons_zero]
            refine wpAnyH_ready (rs := [19]) (by kernel_rfl) (by simp) ?_
            refine AllReadyH.cons rfl (fun K hK => ?_) AllReadyH.nil
            refine step_appN (base := w7.heap.size) rfl (.tmp 56) (.tmp 60) 28 rfl 34 (.agg #[.int .i64 0, .int .i64 0]) 2 16 Try.underlying28 (by kernel_rfl) rfl (by omega) encEv_len one_ev A6 c6 (l.length + 1) ((([] : List Ev) ++ l.take (l.length)) ++ [((k, d) : Ev)]) (by rw [List.length_append, HL5.out]; rfl) rfl hv6 _ _ 0 0 ([] : List Ev) rfl rfl (Ls.none_ (A := _) (B := 0)) (by unfold maxLen; omega) (by omega) hHeld.1.size (l.length + 1) (by omega) ?_
            intro A7 c7 v18 hv7 hw7
            have hwi := hw7.below (B := w7.heap.size) hHeld.1.size (fun q hq => (hv6.block hq).1)
            replace b7 := b7.wr hw7 (hv6.ne_blk2 b7 (by decide))
            refine hK.out _ _ (HK.out _ (hHeld.1.trans hwi)) (fun hH2 => ?_)
            clear hK K hHeld
            have hHeld := hH2
            clear hH2
            clear hwi
            try simp only [Act.put, List.setIfInBounds_toArray, List.set_cons_zero, List.set_cons_succ, List.getElem_toArray, List.getElem_cons_succ, List.getElem_cons_zero]
            refine wpAnyH_take (i := 20) (v := ?v52) rfl (by kernel_rfl) (by kernel_rfl) (by kernel_rfl) (fun _ _ _ h => h) (Or.inl ⟨by rfl, ?hy52⟩) hHeld ?rest52
            case hy52 => (intro W hSw; (try dsimp only at hSw); go_simp) <;> with_reducible rfl
            try simp only [Act.put, List.setIfInBounds_toArray, List.set_cons_zero, List.set_cons_succ, List.getElem_toArray, List.getElem_cons_succ, List.getElem_cons_zero]
            refine wpAnyH_ready (rs := [22]) (by kernel_rfl) (by simp) ?_
            refine AllReadyH.cons rfl (fun K hK => ?_) AllReadyH.nil
            have c70 := b7.cell 0
            have c71 := b7.cell 1
            have c72 := b7.cell 2
            have c73 := b7.cell 3
            have f70 := b7.frozen 0
            have f71 := b7.frozen 1
            have f72 := b7.frozen 2
            have f73 := b7.frozen 3
            go_simp
            refine hK.out _ _ (HK.out _ (Below.setCell (Below.setCell (Below.setCell (Below.setCell hHeld.1 (p := ⟨N7, 0, none⟩) hzN7 (.int .i64 id)) (p := ⟨N7, 1, none⟩) hzN7 (.int .i64 series)) (p := ⟨N7, 2, none⟩) hzN7 (.int .i64 made)) (p := ⟨N7, 3, none⟩) hzN7 (.slice A7 (l.length + 1) c7))) (fun hH2 => ?_)
            clear hK K hHeld
            have hHeld := hH2
            clear hH2
            have hwr : Wr (fun q => q = N7) v18 ((((v18.setCell ⟨N7, 0, none⟩ (.int .i64 id)).setCell ⟨N7, 1, none⟩ (.int .i64 series)).setCell ⟨N7, 2, none⟩ (.int .i64 made)).setCell ⟨N7, 3, none⟩ (.slice A7 (l.length + 1) c7)) := (Wr.setCell (p := ⟨N7, 3, none⟩) (Wr.setCell (p := ⟨N7, 2, none⟩) (Wr.setCell (p := ⟨N7, 1, none⟩) (Wr.setCell (p := ⟨N7, 0, none⟩) (Wr.refl (fun q => q = N7) v18) (.inl rfl) (.int .i64 id)) (.inl rfl) (.int .i64 series)) (.inl rfl) (.int .i64 made)) (.inl rfl) (.slice A7 (l.length + 1) c7))
            have ho8 : Blk ((((v18.setCell ⟨N7, 0, none⟩ (.int .i64 id)).setCell ⟨N7, 1, none⟩ (.int .i64 series)).setCell ⟨N7, 2, none⟩ (.int .i64 made)).setCell ⟨N7, 3, none⟩ (.slice A7 (l.length + 1) c7)) N7 30 (cellsT id series made (.slice A7 (l.length + 1) c7)) := by
              have h := (Blk.set_ (Blk.set_ (Blk.set_ (Blk.set_ b7 0 (.int .i64 id)) 1 (.int .i64 series)) 2 (.int .i64 made)) 3 (.slice A7 (l.length + 1) c7))
              simpa [cellsT] using h
            have hv8 := hv7.wr1 hwr (hv7.ne_blk2 b7 (by decide))
            try simp only [Act.put, List.setIfInBounds_toArray, List.set_cons_zero, List.set_cons_succ, List.getElem_toArray, List.getElem_cons_succ, List.getElem_cons_zero]
            refine wpAnyH_done (by kernel_rfl) ?_ _
            refine NoPanic.normal ?_
            have hB8 := hB7.trans (hHeld.1.mono (show w.heap.size ≤ w7.heap.size by omega))
            rw [HE.out] at hv8
            exact HT.out _ _ _ _ _ _ _ _ _ _ _ _ _ _ _ _ _ _ _ _ _ _ _ _ _ _ _ _ _ _ _ _ _ _ _ _ _ _ _ _ _ _ _ _ _ _ _ _ _ _ _ _ _ _ _ _ _ _ _ _ _ _ _ _ _ _ _ _ _ ho8 (hv8.mono (by omega)) (hy7.below hHeld.1 (by omega)) hB8 (by omega)
        · go_simp
          refine hK.out _ _ (HK.out _ (Below.alloc hHeld.1 hHeld.1.size _)) (fun hH2 => ?_)
          have hzN1 : w7.heap.size ≤ v1.heap.size := hHeld.1.size
          clear hK K hHeld
          have hHeld := hH2
          clear hH2
          have lt_N0_N1 : N0 < v1.heap.size := b0.lt
          replace b0 := b0.alloc (.cells #[.int .i64 k, .int .i64 d] 34)
          have b1 : Blk (v1.alloc (.cells #[.int .i64 k, .int .i64 d] 34)) v1.heap.size 34 #[.int .i64 k, .int .i64 d] := Blk.new v1 34 #[.int .i64 k, .int .i64 d]
          generalize (v1.alloc (.cells #[.int .i64 k, .int .i64 d] 34)) = v20 at *
          generalize v1.heap.size = N1 at *
          try simp only [Act.put, List.setIfInBounds_toArray, List.set_cons_zero, List.set_cons_succ, List.getElem_toArray, List.getElem_cons_succ, List.getElem_cons_zero]
          refine wpAnyH_ready (rs := [11, 21]) (by kernel_rfl) (by simp) ?_
          refine AllReadyH.cons rfl (fun K hK => ?_) (AllReadyH.cons rfl (fun K hK => ?_) AllReadyH.nil)
          · refine step_appN (base := w7.heap.size) rfl (.tmp 48) (.tmp 52) 28 rfl 34 (.agg #[.int .i64 0, .int .i64 0]) 2 16 Try.underlying28 (by kernel_rfl) rfl (by omega) encEv_len one_ev _ 0 0 ([] : List Ev) rfl rfl (Vec.empty_at (base := w7.heap.size) b0 hzN0) A c _ (l.length) (l.take (l.length)) hlk rfl (HLt.out _ hHeld.1) (by unfold maxLen; omega) (by omega) hHeld.1.size (l.length) (by omega) ?_
            intro A5 c5 v21 hv5 hw5
            have hwi := hw5.below (B := w7.heap.size) hHeld.1.size (fun q hq => by obtain ⟨_, hx⟩ := hq; cases hx; exact hzN0)
            replace b1 := b1.wr hw5 (fun hq => by obtain ⟨_, hx⟩ := hq; cases hx; omega)
            refine hK.out _ _ (HK.out _ (hHeld.1.trans hwi)) (fun hH2 => ?_)
            clear hK K hHeld
            have hHeld := hH2
            clear hH2
            clear hwi
            try simp only [Act.put, List.setIfInBounds_toArray, List.set_cons_zero, List.set_cons_succ, List.getElem_toArray, List.getElem_cons_succ, List.getElem_cons_zero]
            refine wpAnyH_ready (rs := [14, 21]) (by kernel_rfl) (by simp) ?_
            refine AllReadyH.cons rfl (fun K hK => ?_) (AllReadyH.cons rfl (fun K hK => ?_) AllReadyH.nil)
            · refine step_appN (base := w7.heap.size) rfl (.tmp 53) (.tmp 55) 28 rfl 34 (.agg #[.int .i64 0, .int .i64 0]) 2 16 Try.underlying28 (by kernel_rfl) rfl (by omega) encEv_len one_ev A5 c5 (l.length) (([] : List Ev) ++ l.take (l.length)) HL5.out rfl hv5 _ 1 _ 1 [((k, d) : Ev)] rfl rfl (Ls.blkc b1 rfl) (by unfold maxLen; omega) (by omega) hHeld.1.size (l.length + 1) (by omega) ?_
              intro A6 c6 v22 hv6 hw6
              have hwi := hw6.below (B := w7.heap.size) hHeld.1.size (fun q hq => (hv5.block hq).1)
              refine hK.out _ _ (HK.out _ (hHeld.1.trans hwi)) (fun hH2 => ?_)
              clear hK K hHeld
              have hHeld := hH2
              clear hH2
              clear hwi
              try simp only [Act.put, List.setIfInBounds_toArray, List.set_cons_zero, List.set_cons_succ, List.getElem_toArray, List.getElem_cons_succ, List.getElem_cons_zero]
              refine wpAnyH_ready (rs := [19, 21]) (by kernel_rfl) (by simp) ?_
              refine AllReadyH.cons rfl (fun K hK => ?_) (AllReadyH.cons rfl (fun K hK => ?_) AllReadyH.nil)
              · refine step_appN (base := w7.heap.size) rfl (.tmp 56) (.tmp 60) 28 rfl 34 (.agg #[.int .i64 0, .int .i64 0]) 2 16 Try.underlying28 (by kernel_rfl) rfl (by omega) encEv_len one_ev A6 c6 (l.length + 1) ((([] : List Ev) ++ l.take (l.length)) ++ [((k, d) : Ev)]) (by rw [List.length_append, HL5.out]; rfl) rfl hv6 _ _ 0 0 ([] : List Ev) rfl rfl (Ls.none_ (A := _) (B := 0)) (by unfold maxLen; omega) (by omega) hHeld.1.size (l.length + 1) (by omega) ?_
                intro A7 c7 v23 hv7 hw7
                have hwi := hw7.below (B := w7.heap.size) hHeld.1.size (fun q hq => (hv6.block hq).1)
                refine hK.out _ _ (HK.out _ (hHeld.1.trans hwi)) (fun hH2 => ?_)
                clear hK K hHeld
                have hHeld := hH2
                clear hH2
                clear hwi
                try simp only [Act.put, List.setIfInBounds_toArray, List.set_cons_zero, List.set_cons_succ, List.getElem_toArray, List.getElem_cons_succ, List.getElem_cons_zero]
                refine wpAnyH_take (i := 20) (v := ?v53) rfl (by kernel_rfl) (by kernel_rfl) (by kernel_rfl) (fun _ _ _ h => h) (Or.inl ⟨by rfl, ?hy53⟩) hHeld ?rest53
                case hy53 => (intro W hSw; (try dsimp only at hSw); go_simp) <;> with_reducible rfl
                try simp only [Act.put, List.setIfInBounds_toArray, List.set_cons_zero, List.set_cons_succ, List.getElem_toArray, List.getElem_cons_succ, List.getElem_cons_zero]
                refine wpAnyH_ready (rs := [21]) (by kernel_rfl) (by simp) ?_
                refine AllReadyH.cons rfl (fun K hK => ?_) AllReadyH.nil
                go_simp
                refine hK.out _ _ (HK.out _ (Below.alloc hHeld.1 hHeld.1.size _)) (fun hH2 => ?_)
                have hzN7 : w7.heap.size ≤ v23.heap.size := hHeld.1.size
                clear hK K hHeld
                have hHeld := hH2
                clear hH2
                replace hv7 := hv7.alloc (.cells #[.int .i64 0, .int .i64 0, .int .i64 0, .slice none 0 0] 30)
                have b7 : Blk (v23.alloc (.cells #[.int .i64 0, .int .i64 0, .int .i64 0, .slice none 0 0] 30)) v23.heap.size 30 #[.int .i64 0, .int .i64 0, .int .i64 0, .slice none 0 0] := Blk.new v23 30 #[.int .i64 0, .int .i64 0, .int .i64 0, .slice none 0 0]
                generalize (v23.alloc (.cells #[.int .i64 0, .int .i64 0, .int .i64 0, .slice none 0 0] 30)) = v24 at *
                generalize v23.heap.size = N7 at *
                try simp only [Act.put, List.setIfInBounds_toArray, List.set_cons_zero, List.set_cons_succ, List.getElem_toArray, List.getElem_cons_succ, List.getElem_cons_zero]
                refine wpAnyH_ready (rs := [22]) (by kernel_rfl) (by simp) ?_
                refine AllReadyH.cons rfl (fun K hK => ?_) AllReadyH.nil
                have c70 := b7.cell 0
                have c71 := b7.cell 1
                have c72 := b7.cell 2
                have c73 := b7.cell 3
                have f70 := b7.frozen 0
                have f71 := b7.frozen 1
                have f72 := b7.frozen 2
                have f73 := b7.frozen 3
                go_simp
                refine hK.out _ _ (HK.out _ (Below.setCell (Below.setCell (Below.setCell (Below.setCell hHeld.1 (p := ⟨N7, 0, none⟩) hzN7 (.int .i64 id)) (p := ⟨N7, 1, none⟩) hzN7 (.int .i64 series)) (p := ⟨N7, 2, none⟩) hzN7 (.int .i64 made)) (p := ⟨N7, 3, none⟩) hzN7 (.slice A7 (l.length + 1) c7))) (fun hH2 => ?_)
                clear hK K hHeld
                have hHeld := hH2
                clear hH2
                have hwr : Wr (fun q => q = N7) v24 ((((v24.setCell ⟨N7, 0, none⟩ (.int .i64 id)).setCell ⟨N7, 1, none⟩ (.int .i64 series)).setCell ⟨N7, 2, none⟩ (.int .i64 made)).setCell ⟨N7, 3, none⟩ (.slice A7 (l.length + 1) c7)) := (Wr.setCell (p := ⟨N7, 3, none⟩) (Wr.setCell (p := ⟨N7, 2, none⟩) (Wr.setCell (p := ⟨N7, 1, none⟩) (Wr.setCell (p := ⟨N7, 0, none⟩) (Wr.refl (fun q => q = N7) v24) (.inl rfl) (.int .i64 id)) (.inl rfl) (.int .i64 series)) (.inl rfl) (.int .i64 made)) (.inl rfl) (.slice A7 (l.length + 1) c7))
                have ho8 : Blk ((((v24.setCell ⟨N7, 0, none⟩ (.int .i64 id)).setCell ⟨N7, 1, none⟩ (.int .i64 series)).setCell ⟨N7, 2, none⟩ (.int .i64 made)).setCell ⟨N7, 3, none⟩ (.slice A7 (l.length + 1) c7)) N7 30 (cellsT id series made (.slice A7 (l.length + 1) c7)) := by
                  have h := (Blk.set_ (Blk.set_ (Blk.set_ (Blk.set_ b7 0 (.int .i64 id)) 1 (.int .i64 series)) 2 (.int .i64 made)) 3 (.slice A7 (l.length + 1) c7))
                  simpa [cellsT] using h
                have hv8 := hv7.wr1 hwr (hv7.ne_blk2 b7 (by decide))
                try simp only [Act.put, List.setIfInBounds_toArray, List.set_cons_zero, List.set_cons_succ, List.getElem_toArray, List.getElem_cons_succ, List.getElem_cons_zero]
                refine wpAnyH_done (by kernel_rfl) ?_ _
                refine NoPanic.normal ?_
                have hB8 := hB7.trans (hHeld.1.mono (show w.heap.size ≤ w7.heap.size by omega))
                rw [HE.out] at hv8
                exact HT.out _ _ _ _ _ _ _ _ _ _ _ _ _ _ _ _ _ _ _ _ _ _ _ _ _ _ _ _ _ _ _ _ _ _ _ _ _ _ _ _ _ _ _ _ _ _ _ _ _ _ _ _ _ _ _ _ _ _ _ _ _ _ _ _ _ _ _ _ _ ho8 (hv8.mono (by omega)) (hy7.below hHeld.1 (by omega)) hB8 (by omega)
              · go_simp
                refine hK.out _ _ (HK.out _ (Below.alloc hHeld.1 hHeld.1.size _)) (fun hH2 => ?_)
                have hzN7 : w7.heap.size ≤ v22.heap.size := hHeld.1.size
                clear hK K hHeld
                have hHeld := hH2
                clear hH2
                replace hv6 := hv6.alloc (.cells #[.int .i64 0, .int .i64 0, .int .i64 0, .slice none 0 0] 30)
                have b7 : Blk (v22.alloc (.cells #[.int .i64 0, .int .i64 0, .int .i64 0, .slice none 0 0] 30)) v22.heap.size 30 #[.int .i64 0, .int .i64 0, .int .i64 0, .slice none 0 0] := Blk.new v22 30 #[.int .i64 0, .int .i64 0, .int .i64 0, .slice none 0 0]
                generalize (v22.alloc (.cells #[.int .i64 0, .int .i64 0, .int .i64 0, .slice none 0 0] 30)) = v26 at *
                generalize v22.heap.size = N7 at *
                try simp only [Act.put, List.setIfInBounds_toArray, List.set_cons_zero, List.set_cons_succ, List.getElem_toArray, List.getElem_cons_succ, List.getElem_cons_zero]
                refine wpAnyH_ready (rs := [19]) (by kernel_rfl) (by simp) ?_
                refine AllReadyH.cons rfl (fun K hK => ?_) AllReadyH.nil
                refine step_appN (base := w7.heap.size) rfl (.tmp 56) (.tmp 60) 28 rfl 34 (.agg #[.int .i64 0, .int .i64 0]) 2 16 Try.underlying28 (by kernel_rfl) rfl (by omega) encEv_len one_ev A6 c6 (l.length + 1) ((([] : List Ev) ++ l.take (l.length)) ++ [((k, d) : Ev)]) (by rw [List.length_append, HL5.out]; rfl) rfl hv6 _ _ 0 0 ([] : List Ev) rfl rfl (Ls.none_ (A := _) (B := 0)) (by unfold maxLen; omega) (by omega) hHeld.1.size (l.length + 1) (by omega) ?_
                intro A7 c7 v27 hv7 hw7
                have hwi := hw7.below (B := w7.heap.size) hHeld.1.size (fun q hq => (hv6.block hq).1)
                replace b7 := b7.wr hw7 (hv6.ne_blk2 b7 (by decide))
                refine hK.out _ _ (HK.out _ (hHeld.1.trans hwi)) (fun hH2 => ?_)
                clear hK K hHeld
                have hHeld := hH2
                clear hH2
                clear hwi
                try simp only [Act.put, List.setIfInBounds_toArray, List.set_cons_zero, List.set_cons_succ, List.getElem_toArray, List.getElem_cons_succ, List.getElem_cons_zero]
                refine wpAnyH_take (i := 20) (v := ?v54) rfl (by kernel_rfl) (by kernel_rfl) (by kernel_rfl) (fun _ _ _ h => h) (Or.inl ⟨by rfl, ?hy54⟩) hHeld ?rest54
                case hy54 => (intro W hSw; (try dsimp only at hSw); go_simp) <;> with_reducible rfl
                try simp only [Act.put, List.setIfInBounds_toArray, List.set_cons_zero, List.set_cons_succ, List.getElem_toArray, List.getElem_cons_succ, List.getElem_cons_zero]
                refine wpAnyH_ready (rs := [22]) (by kernel_rfl) (by simp) ?_
                refine AllReadyH.cons rfl (fun K hK => ?_) AllReadyH.nil
                have c70 := b7.cell 0
                have c71 := b7.cell 1
                have c72 := b7.cell 2
                have c73 := b7.cell 3
                have f70 := b7.frozen 0
                have f71 := b7.frozen 1
                have f72 := b7.frozen 2
                have f73 := b7.frozen 3
                go_simp
                refine hK.out _ _ (HK.out _ (Below.setCell (Below.setCell (Below.setCell (Below.setCell hHeld.1 (p := ⟨N7, 0, none⟩) hzN7 (.int .i64 id)) (p := ⟨N7, 1, none⟩) hzN7 (.int .i64 series)) (p := ⟨N7, 2, none⟩) hzN7 (.int .i64 made)) (p := ⟨N7, 3, none⟩) hzN7 (.slice A7 (l.length + 1) c7))) (fun hH2 => ?_)
                clear hK K hHeld
                have hHeld := hH2
                clear hH2
                have hwr : Wr (fun q => q = N7) v27 ((((v27.setCell ⟨N7, 0, none⟩ (.int .i64 id)).setCell ⟨N7, 1, none⟩ (.int .i64 series)).setCell ⟨N7, 2, none⟩ (.int .i64 made)).setCell ⟨N7, 3, none⟩ (.slice A7 (l.length + 1) c7)) := (Wr.setCell (p := ⟨N7, 3, none⟩) (Wr.setCell (p := ⟨N7, 2, none⟩) (Wr.setCell (p := ⟨N7, 1, none⟩) (Wr.setCell (p := ⟨N7, 0, none⟩) (Wr.refl (fun q => q = N7) v27) (.inl rfl) (.int .i64 id)) (.inl rfl) (.int .i64 series)) (.inl rfl) (.int .i64 made)) (.inl rfl) (.slice A7 (l.length + 1) c7))
                have ho8 : Blk ((((v27.setCell ⟨N7, 0, none⟩ (.int .i64 id)).setCell ⟨N7, 1, none⟩ (.int .i64 series)).setCell ⟨N7, 2, none⟩ (.int .i64 made)).setCell ⟨N7, 3, none⟩ (.slice A7 (l.length + 1) c7)) N7 30 (cellsT id series made (.slice A7 (l.length + 1) c7)) := by
                  have h := (Blk.set_ (Blk.set_ (Blk.set_ (Blk.set_ b7 0 (.int .i64 id)) 1 (.int .i64 series)) 2 (.int .i64 made)) 3 (.slice A7 (l.length + 1) c7))
                  simpa [cellsT] using h
                have hv8 := hv7.wr1 hwr (hv7.ne_blk2 b7 (by decide))
                try simp only [Act.put, List.setIfInBounds_toArray, List.set_cons_zero, List.set_cons_succ, List.getElem_toArray, List.getElem_cons_succ, List.getElem_cons_zero]
                refine wpAnyH_done (by kernel_rfl) ?_ _
                refine NoPanic.normal ?_
                have hB8 := hB7.trans (hHeld.1.mono (show w.heap.size ≤ w7.heap.size by omega))
                rw [HE.out] at hv8
                exact HT.out _ _ _ _ _ _ _ _ _ _ _ _ _ _ _ _ _ _ _ _ _ _ _ _ _ _ _ _ _ _ _ _ _ _ _ _ _ _ _ _ _ _ _ _ _ _ _ _ _ _ _ _ _ _ _ _ _ _ _ _ _ _ _ _ _ _ _ _ _ ho8 (hv8.mono (by omega)) (hy7.below hHeld.1 (by omega)) hB8 (by omega)
            · go_simp
              refine hK.out _ _ (HK.out _ (Below.alloc hHeld.1 hHeld.1.size _)) (fun hH2 => ?_)
              have hzN7 : w7.heap.size ≤ v21.heap.size := hHeld.1.size
              clear hK K hHeld
              have hHeld := hH2
              clear hH2
              have lt_N1_N7 : N1 < v21.heap.size := b1.lt
              replace b1 := b1.alloc (.cells #[.int .i64 0, .int .i64 0, .int .i64 0, .slice none 0 0] 30)
              replace hv5 := hv5.alloc (.cells #[.int .i64 0, .int .i64 0, .int .i64 0, .slice none 0 0] 30)
              have b7 : Blk (v21.alloc (.cells #[.int .i64 0, .int .i64 0, .int .i64 0, .slice none 0 0] 30)) v21.heap.size 30 #[.int .i64 0, .int .i64 0, .int .i64 0, .slice none 0 0] := Blk.new v21 30 #[.int .i64 0, .int .i64 0, .int .i64 0, .slice none 0 0]
              generalize (v21.alloc (.cells #[.int .i64 0, .int .i64 0, .int .i64 0, .slice none 0 0] 30)) = v29 at *
              generalize v21.heap.size = N7 at *
              try simp only [Act.put, List.setIfInBounds_toArray, List.set_cons_zero, List.set_cons_succ, List.getElem_toArray, List.getElem_cons_succ, List.getElem_cons_zero]
              refine wpAnyH_ready (rs := [14]) (by kernel_rfl) (by simp) ?_
              refine AllReadyH.cons rfl (fun K hK => ?_) AllReadyH.nil
              refine step_appN (base := w7.heap.size) rfl (.tmp 53) (.tmp 55) 28 rfl 34 (.agg #[.int .i64 0, .int .i64 0]) 2 16 Try.underlying28 (by kernel_rfl) rfl (by omega) encEv_len one_ev A5 c5 (l.length) (([] : List Ev) ++ l.take (l.length)) HL5.out rfl hv5 _ 1 _ 1 [((k, d) : Ev)] rfl rfl (Ls.blkc b1 rfl) (by unfold maxLen; omega) (by omega) hHeld.1.size (l.length + 1) (by omega) ?_
              intro A6 c6 v30 hv6 hw6
              have hwi := hw6.below (B := w7.heap.size) hHeld.1.size (fun q hq => (hv5.block hq).1)
              replace b7 := b7.wr hw6 (hv5.ne_blk2 b7 (by decide))
              refine hK.out _ _ (HK.out _ (hHeld.1.trans hwi)) (fun hH2 => ?_)
              clear hK K hHeld
              have hHeld := hH2
              clear hH2
              clear hwi
              try simp only [Act.put, List.setIfInBounds_toArray, List.set_cons_zero, List.set_cons_succ, List.getElem_toArray, List.getElem_cons_succ, List.getElem_cons_zero]
              refine wpAnyH_ready (rs := [19]) (by kernel_rfl) (by simp) ?_
              refine AllReadyH.cons rfl (fun K hK => ?_) AllReadyH.nil
              refine step_appN (base := w7.heap.size) rfl (.tmp 56) (.tmp 60) 28 rfl 34 (.agg #[.int .i64 0, .int .i64 0]) 2 16 Try.underlying28 (by kernel_rfl) rfl (by omega) encEv_len one_ev A6 c6 (l.length + 1) ((([] : List Ev) ++ l.take (l.length)) ++ [((k, d) : Ev)]) (by rw [List.length_append, HL5.out]; rfl) rfl hv6 _ _ 0 0 ([] : List Ev) rfl rfl (Ls.none_ (A := _) (B := 0)) (by unfold maxLen; omega) (by omega) hHeld.1.size (l.length + 1) (by omega) ?_
              intro A7 c7 v31 hv7 hw7
              have hwi := hw7.below (B := w7.heap.size) hHeld.1.size (fun q hq => (hv6.block hq).1)
              replace b7 := b7.wr hw7 (hv6.ne_blk2 b7 (by decide))
              refine hK.out _ _ (HK.out _ (hHeld.1.trans hwi)) (fun hH2 => ?_)
              clear hK K hHeld
              have hHeld := hH2
              clear hH2
              clear hwi
              try simp only [Act.put, List.setIfInBounds_toArray, List.set_cons_zero, List.set_cons_succ, List.getElem_toArray, List.getElem_cons_succ, List.getElem_cons_zero]
              refine wpAnyH_take (i := 20) (v := ?v55) rfl (by kernel_rfl) (by kernel_rfl) (by kernel_rfl) (fun _ _ _ h => h) (Or.inl ⟨by rfl, ?hy55⟩) hHeld ?rest55
              case hy55 => (intro W hSw; (try dsimp only at hSw); go_simp) <;> with_reducible rfl
              try simp only [Act.put, List.setIfInBounds_toArray, List.set_cons_zero, List.set_cons_succ, List.getElem_toArray, List.getElem_cons_succ, List.getElem_cons_zero]
              refine wpAnyH_ready (rs := [22]) (by kernel_rfl) (by simp) ?_
              refine AllReadyH.cons rfl (fun K hK => ?_) AllReadyH.nil
              have c70 := b7.cell 0
              have c71 := b7.cell 1
              have c72 := b7.cell 2
              have c73 := b7.cell 3
              have f70 := b7.frozen 0
              have f71 := b7.frozen 1
              have f72 := b7.frozen 2
              have f73 := b7.frozen 3
              go_simp
              refine hK.out _ _ (HK.out _ (Below.setCell (Below.setCell (Below.setCell (Below.setCell hHeld.1 (p := ⟨N7, 0, none⟩) hzN7 (.int .i64 id)) (p := ⟨N7, 1, none⟩) hzN7 (.int .i64 series)) (p := ⟨N7, 2, none⟩) hzN7 (.int .i64 made)) (p := ⟨N7, 3, none⟩) hzN7 (.slice A7 (l.length + 1) c7))) (fun hH2 => ?_)
              clear hK K hHeld
              have hHeld := hH2
              clear hH2
              have hwr : Wr (fun q => q = N7) v31 ((((v31.setCell ⟨N7, 0, none⟩ (.int .i64 id)).setCell ⟨N7, 1, none⟩ (.int .i64 series)).setCell ⟨N7, 2, none⟩ (.int .i64 made)).setCell ⟨N7, 3, none⟩ (.slice A7 (l.length + 1) c7)) := (Wr.setCell (p := ⟨N7, 3, none⟩) (Wr.setCell (p := ⟨N7, 2, none⟩) (Wr.setCell (p := ⟨N7, 1, none⟩) (Wr.setCell (p := ⟨N7, 0, none⟩) (Wr.refl (fun q => q = N7) v31) (.inl rfl) (.int .i64 id)) (.inl rfl) (.int .i64 series)) (.inl rfl) (.int .i64 made)) (.inl rfl) (.slice A7 (l.length + 1) c7))
              have ho8 : Blk ((((v31.setCell ⟨N7, 0, none⟩ (.int .i64 id)).setCell ⟨N7, 1, none⟩ (.int .i64 series)).setCell ⟨N7, 2, none⟩ (.int .i64 made)).setCell ⟨N7, 3, none⟩ (.slice A7 (l.length + 1) c7)) N7 30 (cellsT id series made (.slice A7 (l.length + 1) c7)) := by
                have h := (Blk.set_ (Blk.set_ (Blk.set_ (Blk.set_ b7 0 (.int .i64 id)) 1 (.int .i64 series)) 2 (.int .i64 made)) 3 (.slice A7 (l.length + 1) c7))
                simpa [cellsT] using h
              have hv8 := hv7.wr1 hwr (hv7.ne_blk2 b7 (by decide))
              try simp only [Act.put, List.setIfInBounds_toArray, List.set_cons_zero, List.set_cons_succ, List.getElem_toArray, List.getElem_cons_succ, List.getElem_cons_zero]
              refine wpAnyH_done (by kernel_rfl) ?_ _
              refine NoPanic.normal ?_
              have hB8 := hB7.trans (hHeld.1.mono (show w.heap.size ≤ w7.heap.size by omega))
              rw [HE.out] at hv8
              exact HT.out _ _ _ _ _ _ _ _ _ _ _ _ _ _ _ _ _ _ _ _ _ _ _ _ _ _ _ _ _ _ _ _ _ _ _ _ _ _ _ _ _ _ _ _ _ _ _ _ _ _ _ _ _ _ _ _ _ _ _ _ _ _ _ _ _ _ _ _ _ ho8 (hv8.mono (by omega)) (hy7.below hHeld.1 (by omega)) hB8 (by omega)
          · go_simp
            refine hK.out _ _ (HK.out _ (Below.alloc hHeld.1 hHeld.1.size _)) (fun hH2 => ?_)
            have hzN7 : w7.heap.size ≤ v20.heap.size := hHeld.1.size
            clear hK K hHeld
            have hHeld := hH2
            clear hH2
            have lt_N0_N7 : N0 < v20.heap.size := b0.lt
            replace b0 := b0.alloc (.cells #[.int .i64 0, .int .i64 0, .int .i64 0, .slice none 0 0] 30)
            have lt_N1_N7 : N1 < v20.heap.size := b1.lt
            replace b1 := b1.alloc (.cells #[.int .i64 0, .int .i64 0, .int .i64 0, .slice none 0 0] 30)
            have b7 : Blk (v20.alloc (.cells #[.int .i64 0, .int .i64 0, .int .i64 0, .slice none 0 0] 30)) v20.heap.size 30 #[.int .i64 0, .int .i64 0, .int .i64 0, .slice none 0 0] := Blk.new v20 30 #[.int .i64 0, .int .i64 0, .int .i64 0, .slice none 0 0]
            generalize (v20.alloc (.cells #[.int .i64 0, .int .i64 0, .int .i64 0, .slice none 0 0] 30)) = v33 at *
            generalize v20.heap.size = N7 at *
            try simp only [Act.put, List.setIfInBounds_toArray, List.set_cons_zero, List.set_cons_succ, List.getElem_toArray, List.getElem_cons_succ, List.getElem_cons_zero]
            refine wpAnyH_ready (rs := [11]) (by kernel_rfl) (by simp) ?_
            refine AllReadyH.cons rfl (fun K hK => ?_) AllReadyH.nil
            refine step_appN (base := w7.heap.size) rfl (.tmp 48) (.tmp 52) 28 rfl 34 (.agg #[.int .i64 0, .int .i64 0]) 2 16 Try.underlying28 (by kernel_rfl) rfl (by omega) encEv_len one_ev _ 0 0 ([] : List Ev) rfl rfl (Vec.empty_at (base := w7.heap.size) b0 hzN0) A c _ (l.length) (l.take (l.length)) hlk rfl (HLt.out _ hHeld.1) (by unfold maxLen; omega) (by omega) hHeld.1.size (l.length) (by omega) ?_
            intro A5 c5 v34 hv5 hw5
            have hwi := hw5.below (B := w7.heap.size) hHeld.1.size (fun q hq => by obtain ⟨_, hx⟩ := hq; cases hx; exact hzN0)
            replace b1 := b1.wr hw5 (fun hq => by obtain ⟨_, hx⟩ := hq; cases hx; omega)
            replace b7 := b7.wr hw5 (fun hq => by obtain ⟨_, hx⟩ := hq; cases hx; omega)
            refine hK.out _ _ (HK.out _ (hHeld.1.trans hwi)) (fun hH2 => ?_)
            clear hK K hHeld
            have hHeld := hH2
            clear hH2
            clear hwi
            try simp only [Act.put, List.setIfInBounds_toArray, List.set_cons_zero, List.set_cons_succ, List.getElem_toArray, List.getElem_cons_succ, List.getElem_cons_zero]
            refine wpAnyH_ready (rs := [14]) (by kernel_rfl) (by simp) ?_
            refine AllReadyH.cons rfl (fun K hK => ?_) AllReadyH.nil
            refine step_appN (base := w7.heap.size) rfl (.tmp 53) (.tmp 55) 28 rfl 34 (.agg #[.int .i64 0, .int .i64 0]) 2 16 Try.underlying28 (by kernel_rfl) rfl (by omega) encEv_len one_ev A5 c5 (l.length) (([] : List Ev) ++ l.take (l.length)) HL5.out rfl hv5 _ 1 _ 1 [((k, d) : Ev)] rfl rfl (Ls.blkc b1 rfl) (by unfold maxLen; omega) (by omega) hHeld.1.size (l.length + 1) (by omega) ?_
            intro A6 c6 v35 hv6 hw6
            have hwi := hw6.below (B := w7.heap.size) hHeld.1.size (fun q hq => (hv5.block hq).1)
            replace b7 := b7.wr hw6 (hv5.ne_blk2 b7 (by decide))
            refine hK.out _ _ (HK.out _ (hHeld.1.trans hwi)) (fun hH2 => ?_)
            clear hK K hHeld
            have hHeld := hH2
            clear hH2
            clear hwi
            try simp only [Act.put, List.setIfInBounds_toArray, List.set_cons_zero, List.set_cons_succ, List.getElem_toArray, List.getElem_cons_succ, List.getElem_cons_zero]
            refine wpAnyH_ready (rs := [19]) (by kernel_rfl) (by simp) ?_
            refine AllReadyH.cons rfl (fun K hK => ?_) AllReadyH.nil
            refine step_appN (base := w7.heap.size) rfl (.tmp 56) (.tmp 60) 28 rfl 34 (.agg #[.int .i64 0, .int .i64 0]) 2 16 Try.underlying28 (by kernel_rfl) rfl (by omega) encEv_len one_ev A6 c6 (l.length + 1) ((([] : List Ev) ++ l.take (l.length)) ++ [((k, d) : Ev)]) (by rw [List.length_append, HL5.out]; rfl) rfl hv6 _ _ 0 0 ([] : List Ev) rfl rfl (Ls.none_ (A := _) (B := 0)) (by unfold maxLen; omega) (by omega) hHeld.1.size (l.length + 1) (by omega) ?_
            intro A7 c7 v36 hv7 hw7
            have hwi := hw7.below (B := w7.heap.size) hHeld.1.size (fun q hq => (hv6.block hq).1)
            replace b7 := b7.wr hw7 (hv6.ne_blk2 b7 (by decide))
            refine hK.out _ _ (HK.out _ (hHeld.1.trans hwi)) (fun hH2 => ?_)
            clear hK K hHeld
            have hHeld := hH2
            clear hH2
            clear hwi
            try simp only [Act.put, List.setIfInBounds_toArray, List.set_cons_zero, List.set_cons_succ, List.getElem_toArray, List.getElem_cons_succ, List.getElem_cons_zero]
            refine wpAnyH_take (i := 20) (v := ?v56) rfl (by kernel_rfl) (by kernel_rfl) (by kernel_rfl) (fun _ _ _ h => h) (Or.inl ⟨by rfl, ?hy56⟩) hHeld ?rest56
            case hy56 => (intro W hSw; (try dsimp only at hSw); go_simp) <;> with_reducible rfl
            try simp only [Act.put, List.setIfInBounds_toArray, List.set_cons_zero, List.set_cons_succ, List.getElem_toArray, List.getElem_cons_succ, List.getElem_cons_zero]
            refine wpAnyH_ready (rs := [22]) (by kernel_rfl) (by simp) ?_
            refine AllReadyH.cons rfl (fun K hK => ?_) AllReadyH.nil
            have c70 := b7.cell 0
            have c71 := b7.cell 1
            have c72 := b7.cell 2
            have c73 := b7.cell 3
            have f70 := b7.frozen 0
            have f71 := b7.frozen 1
            have f72 := b7.frozen 2
            have f73 := b7.frozen 3
            go_simp
            refine hK.out _ _ (HK.out _ (Below.setCell (Below.setCell (Below.setCell (Below.setCell hHeld.1 (p := ⟨N7, 0, none⟩) hzN7 (.int .i64 id)) (p := ⟨N7, 1, none⟩) hzN7 (.int .i64 series)) (p := ⟨N7, 2, none⟩) hzN7 (.int .i64 made)) (p := ⟨N7, 3, none⟩) hzN7 (.slice A7 (l.length + 1) c7))) (fun hH2 => ?_)
            clear hK K hHeld
            have hHeld := hH2
            clear hH2
            have hwr : Wr (fun q => q = N7) v36 ((((v36.setCell ⟨N7, 0, none⟩ (.int .i64 id)).setCell ⟨N7, 1, none⟩ (.int .i64 series)).setCell ⟨N7, 2, none⟩ (.int .i64 made)).setCell ⟨N7, 3, none⟩ (.slice A7 (l.length + 1) c7)) := (Wr.setCell (p := ⟨N7, 3, none⟩) (Wr.setCell (p := ⟨N7, 2, none⟩) (Wr.setCell (p := ⟨N7, 1, none⟩) (Wr.setCell (p := ⟨N7, 0, none⟩) (Wr.refl (fun q => q = N7) v36) (.inl rfl) (.int .i64 id)) (.inl rfl) (.int .i64 series)) (.inl rfl) (.int .i64 made)) (.inl rfl) (.slice A7 (l.length + 1) c7))
            have ho8 : Blk ((((v36.setCell ⟨N7, 0, none⟩ (.int .i64 id)).setCell ⟨N7, 1, none⟩ (.int .i64 series)).setCell ⟨N7, 2, none⟩ (.int .i64 made)).setCell ⟨N7, 3, none⟩ (.slice A7 (l.length + 1) c7)) N7 30 (cellsT id series made (.slice A7 (l.length + 1) c7)) := by
              have h := (Blk.set_ (Blk.set_ (Blk.set_ (Blk.set_ b7 0 (.int .i64 id)) 1 (.int .i64 series)) 2 (.int .i64 made)) 3 (.slice A7 (l.length + 1) c7))
              simpa [cellsT] using h
            have hv8 := hv7.wr1 hwr (hv7.ne_blk2 b7 (by decide))
            try simp only [Act.put, List.setIfInBounds_toArray, List.set_cons_zero, List.set_cons_succ, List.getElem_toArray, List.getElem_cons_succ, List.getElem_cons_zero]
            refine wpAnyH_done (by kernel_rfl) ?_ _
            refine NoPanic.normal ?_
            have hB8 := hB7.trans (hHeld.1.mono (show w.heap.size ≤ w7.heap.size by omega))
            rw [HE.out] at hv8
            exact HT.out _ _ _ _ _ _ _ _ _ _ _ _ _ _ _ _ _ _ _ _ _ _ _ _ _ _ _ _ _ _ _ _ _ _ _ _ _ _ _ _ _ _ _ _ _ _ _ _ _ _ _ _ _ _ _ _ _ _ _ _ _ _ _ _ _ _ _ _ _ ho8 (hv8.mono (by omega)) (hy7.below hHeld.1 (by omega)) hB8 (by omega)
        · go_simp
          refine hK.out _ _ (HK.out _ (Below.alloc hHeld.1 hHeld.1.size _)) (fun hH2 => ?_)
          have hzN7 : w7.heap.size ≤ v1.heap.size := hHeld.1.size
          clear hK K hHeld
          have hHeld := hH2
          clear hH2
          have lt_N0_N7 : N0 < v1.heap.size := b0.lt
          replace b0 := b0.alloc (.cells #[.int .i64 0, .int .i64 0, .int .i64 0, .slice none 0 0] 30)
          have b7 : Blk (v1.alloc (.cells #[.int .i64 0, .int .i64 0, .int .i64 0, .slice none 0 0] 30)) v1.heap.size 30 #[.int .i64 0, .int .i64 0, .int .i64 0, .slice none 0 0] := Blk.new v1 30 #[.int .i64 0, .int .i64 0, .int .i64 0, .slice none 0 0]
          generalize (v1.alloc (.cells #[.int .i64 0, .int .i64 0, .int .i64 0, .slice none 0 0] 30)) = v38 at *
          generalize v1.heap.size = N7 at *
          try simp only [Act.put, List.setIfInBounds_toArray, List.set_cons_zero, List.set_cons_succ, List.getElem_toArray, List.getElem_cons_succ, List.getElem_cons_zero]
          refine wpAnyH_ready (rs := [11, 13]) (by kernel_rfl) (by simp) ?_
          refine AllReadyH.cons rfl (fun K hK => ?_) (AllReadyH.cons rfl (fun K hK => ?_) AllReadyH.nil)
          · refine step_appN (base := w7.heap.size) rfl (.tmp 48) (.tmp 52) 28 rfl 34 (.agg #[.int .i64 0, .int .i64 0]) 2 16 Try.underlying28 (by kernel_rfl) rfl (by omega) encEv_len one_ev _ 0 0 ([] : List Ev) rfl rfl (Vec.empty_at (base := w7.heap.size) b0 hzN0) A c _ (l.length) (l.take (l.length)) hlk rfl (HLt.out _ hHeld.1) (by unfold maxLen; omega) (by omega) hHeld.1.size (l.length) (by omega) ?_
            intro A5 c5 v39 hv5 hw5
            have hwi := hw5.below (B := w7.heap.size) hHeld.1.size (fun q hq => by obtain ⟨_, hx⟩ := hq; cases hx; exact hzN0)
            replace b7 := b7.wr hw5 (fun hq => by obtain ⟨_, hx⟩ := hq; cases hx; omega)
            refine hK.out _ _ (HK.out _ (hHeld.1.trans hwi)) (fun hH2 => ?_)
            clear hK K hHeld
            have hHeld := hH2
            clear hH2
            clear hwi
            try simp only [Act.put, List.setIfInBounds_toArray, List.set_cons_zero, List.set_cons_succ, List.getElem_toArray, List.getElem_cons_succ, List.getElem_cons_zero]
            refine wpAnyH_ready (rs := [13]) (by kernel_rfl) (by simp) ?_
            refine AllReadyH.cons rfl (fun K hK => ?_) AllReadyH.nil
            go_simp
            refine hK.out _ _ (HK.out _ (Below.alloc hHeld.1 hHeld.1.size _)) (fun hH2 => ?_)
            have hzN1 : w7.heap.size ≤ v39.heap.size := hHeld.1.size
            clear hK K hHeld
            have hHeld := hH2
            clear hH2
            have lt_N7_N1 : N7 < v39.heap.size := b7.lt
            replace b7 := b7.alloc (.cells #[.int .i64 k, .int .i64 d] 34)
            replace hv5 := hv5.alloc (.cells #[.int .i64 k, .int .i64 d] 34)
            have b1 : Blk (v39.alloc (.cells #[.int .i64 k, .int .i64 d] 34)) v39.heap.size 34 #[.int .i64 k, .int .i64 d] := Blk.new v39 34 #[.int .i64 k, .int .i64 d]
            generalize (v39.alloc (.cells #[.int .i64 k, .int .i64 d] 34)) = v40 at *
            generalize v39.heap.size = N1 at *
            try simp only [Act.put, List.setIfInBounds_toArray, List.set_cons_zero, List.set_cons_succ, List.getElem_toArray, List.getElem_cons_succ, List.getElem_cons_zero]
            refine wpAnyH_ready (rs := [14]) (by kernel_rfl) (by simp) ?_
            refine AllReadyH.cons rfl (fun K hK => ?_) AllReadyH.nil
            refine step_appN (base := w7.heap.size) rfl (.tmp 53) (.tmp 55) 28 rfl 34 (.agg #[.int .i64 0, .int .i64 0]) 2 16 Try.underlying28 (by kernel_rfl) rfl (by omega) encEv_len one_ev A5 c5 (l.length) (([] : List Ev) ++ l.take (l.length)) HL5.out rfl hv5 _ 1 _ 1 [((k, d) : Ev)] rfl rfl (Ls.blkc b1 rfl) (by unfold maxLen; omega) (by omega) hHeld.1.size (l.length + 1) (by omega) ?_
            intro A6 c6 v41 hv6 hw6
            have hwi := hw6.below (B := w7.heap.size) hHeld.1.size (fun q hq => (hv5.block hq).1)
            replace b7 := b7.wr hw6 (hv5.ne_blk2 b7 (by decide))
            refine hK.out _ _ (HK.out _ (hHeld.1.trans hwi)) (fun hH2 => ?_)
            clear hK K hHeld
            have hHeld := hH2
            clear hH2
            clear hwi
            try simp only [Act.put, List.setIfInBounds_toArray, List.set_cons_zero, List.set_cons_succ, List.getElem_toArray, List.getElem_cons_succ, List.getElem_cons_zero]
            refine wpAnyH_ready (rs := [19]) (by kernel_rfl) (by simp) ?_
            refine AllReadyH.cons rfl (fun K hK => ?_) AllReadyH.nil
            refine step_appN (base := w7.heap.size) rfl (.tmp 56) (.tmp 60) 28 rfl 34 (.agg #[.int .i64 0, .int .i64 0]) 2 16 Try.underlying28 (by kernel_rfl) rfl (by omega) encEv_len one_ev A6 c6 (l.length + 1) ((([] : List Ev) ++ l.take (l.length)) ++ [((k, d) : Ev)]) (by rw [List.length_append, HL5.out]; rfl) rfl hv6 _ _ 0 0 ([] : List Ev) rfl rfl (Ls.none_ (A := _) (B := 0)) (by unfold maxLen; omega) (by omega) hHeld.1.size (l.length + 1) (by omega) ?_
            intro A7 c7 v42 hv7 hw7
            have hwi := hw7.below (B := w7.heap.size) hHeld.1.size (fun q hq => (hv6.block hq).1)
            replace b7 := b7.wr hw7 (hv6.ne_blk2 b7 (by decide))
            refine hK.out _ _ (HK.out _ (hHeld.1.trans hwi)) (fun hH2 => ?_)
            clear hK K hHeld
            have hHeld := hH2
            clear hH2
            clear hwi
            try simp only [Act.put, List.setIfInBounds_toArray, List.set_cons_zero, List.set_cons_succ, List.getElem_toArray, List.getElem_cons_succ, List.getElem_cons_zero]
            refine wpAnyH_take (i := 20) (v := ?v57) rfl (by kernel_rfl) (by kernel_rfl) (by kernel_rfl) (fun _ _ _ h => h) (Or.inl ⟨by rfl, ?hy57⟩) hHeld ?rest57
            case hy57 => (intro W hSw; (try dsimp only at hSw); go_simp) <;> with_reducible rfl
            try simp only [Act.put, List.setIfInBounds_toArray, List.set_cons_zero, List.set_cons_succ, List.getElem_toArray, List.getElem_cons_succ, List.getElem_cons_zero]
            refine wpAnyH_ready (rs := [22]) (by kernel_rfl) (by simp) ?_
            refine AllReadyH.cons rfl (fun K hK => ?_) AllReadyH.nil
            have c70 := b7.cell 0
            have c71 := b7.cell 1
            have c72 := b7.cell 2
            have c73 := b7.cell 3
            have f70 := b7.frozen 0
            have f71 := b7.frozen 1
            have f72 := b7.frozen 2
            have f73 := b7.frozen 3
            go_simp
            refine hK.out _ _ (HK.out _ (Below.setCell (Below.setCell (Below.setCell (Below.setCell hHeld.1 (p := ⟨N7, 0, none⟩) hzN7 (.int .i64 id)) (p := ⟨N7, 1, none⟩) hzN7 (.int .i64 series)) (p := ⟨N7, 2, none⟩) hzN7 (.int .i64 made)) (p := ⟨N7, 3, none⟩) hzN7 (.slice A7 (l.length + 1) c7))) (fun hH2 => ?_)
            clear hK K hHeld
            have hHeld := hH2
            clear hH2
            have hwr : Wr (fun q => q = N7) v42 ((((v42.setCell ⟨N7, 0, none⟩ (.int .i64 id)).setCell ⟨N7, 1, none⟩ (.int .i64 series)).setCell ⟨N7, 2, none⟩ (.int .i64 made)).setCell ⟨N7, 3, none⟩ (.slice A7 (l.length + 1) c7)) := (Wr.setCell (p := ⟨N7, 3, none⟩) (Wr.setCell (p := ⟨N7, 2, none⟩) (Wr.setCell (p := ⟨N7, 1, none⟩) (Wr.setCell (p := ⟨N7, 0, none⟩) (Wr.refl (fun q => q = N7) v42) (.inl rfl) (.int .i64 id)) (.inl rfl) (.int .i64 series)) (.inl rfl) (.int .i64 made)) (.inl rfl) (.slice A7 (l.length + 1) c7))
            have ho8 : Blk ((((v42.setCell ⟨N7, 0, none⟩ (.int .i64 id)).setCell ⟨N7, 1, none⟩ (.int .i64 series)).setCell ⟨N7, 2, none⟩ (.int .i64 made)).setCell ⟨N7, 3, none⟩ (.slice A7 (l.length + 1) c7)) N7 30 (cellsT id series made (.slice A7 (l.length + 1) c7)) := by
              have h := (Blk.set_ (Blk.set_ (Blk.set_ (Blk.set_ b7 0 (.int .i64 id)) 1 (.int .i64 series)) 2 (.int .i64 made)) 3 (.slice A7 (l.length + 1) c7))
              simpa [cellsT] using h
            have hv8 := hv7.wr1 hwr (hv7.ne_blk2 b7 (by decide))
            try simp only [Act.put, List.setIfInBounds_toArray, List.set_cons_zero, List.set_cons_succ, List.getElem_toArray, List.getElem_cons_succ, List.getElem_cons_zero]
            refine wpAnyH_done (by kernel_rfl) ?_ _
            refine NoPanic.normal ?_
            have hB8 := hB7.trans (hHeld.1.mono (show w.heap.size ≤ w7.heap.size by omega))
            rw [HE.out] at hv8
            exact HT.out _ _ _ _ _ _ _ _ _ _ _ _ _ _ _ _ _ _ _ _ _ _ _ _ _ _ _ _ _ _ _ _ _ _ _ _ _ _ _ _ _ _ _ _ _ _ _ _ _ _ _ _ _ _ _ _ _ _ _ _ _ _ _ _ _ _ _ _ _ ho8 (hv8.mono (by omega)) (hy7.below hHeld.1 (by omega)) hB8 (by omega)
          · go_simp
            refine hK.out _ _ (HK.out _ (Below.alloc hHeld.1 hHeld.1.size _)) (fun hH2 => ?_)
            have hzN1 : w7.heap.size ≤ v38.heap.size := hHeld.1.size
            clear hK K hHeld
            have hHeld := hH2
            clear hH2
            have lt_N0_N1 : N0 < v38.heap.size := b0.lt
            replace b0 := b0.alloc (.cells #[.int .i64 k, .int .i64 d] 34)
            have lt_N7_N1 : N7 < v38.heap.size := b7.lt
            replace b7 := b7.alloc (.cells #[.int .i64 k, .int .i64 d] 34)
            have b1 : Blk (v38.alloc (.cells #[.int .i64 k, .int .i64 d] 34)) v38.heap.size 34 #[.int .i64 k, .int .i64 d] := Blk.new v38 34 #[.int .i64 k, .int .i64 d]
            generalize (v38.alloc (.cells #[.int .i64 k, .int .i64 d] 34)) = v44 at *
            generalize v38.heap.size = N1 at *
            try simp only [Act.put, List.setIfInBounds_toArray, List.set_cons_zero, List.set_cons_succ, List.getElem_toArray, List.getElem_cons_succ, List.getElem_cons_zero]
            refine wpAnyH_ready (rs := [11]) (by kernel_rfl) (by simp) ?_
            refine AllReadyH.cons rfl (fun K hK => ?_) AllReadyH.nil
            refine step_appN (base := w7.heap.size) rfl (.tmp 48) (.tmp 52) 28 rfl 34 (.agg #[.int .i64 0, .int .i64 0]) 2 16 Try.underlying28 (by kernel_rfl) rfl (by omega) encEv_len one_ev _ 0 0 ([] : List Ev) rfl rfl (Vec.empty_at (base := w7.heap.size) b0 hzN0) A c _ (l.length) (l.take (l.length)) hlk rfl (HLt.out _ hHeld.1) (by unfold maxLen; omega) (by omega) hHeld.1.size (l.length) (by omega) ?_
            intro A5 c5 v45 hv5 hw5
            have hwi := hw5.below (B := w7.heap.size) hHeld.1.size (fun q hq => by obtain ⟨_, hx⟩ := hq; cases hx; exact hzN0)
            replace b7 := b7.wr hw5 (fun hq => by obtain ⟨_, hx⟩ := hq; cases hx; omega)
            replace b1 := b1.wr hw5 (fun hq => by obtain ⟨_, hx⟩ := hq; cases hx; omega)
            refine hK.out _ _ (HK.out _ (hHeld.1.trans hwi)) (fun hH2 => ?_)
            clear hK K hHeld
            have hHeld := hH2
            clear hH2
            clear hwi
            try simp only [Act.put, List.setIfInBounds_toArray, List.set_cons_zero, List.set_cons_succ, List.getElem_toArray, List.getElem_cons_succ, List.getElem_cons_zero]
            refine wpAnyH_ready (rs := [14]) (by kernel_rfl) (by simp) ?_
            refine AllReadyH.cons rfl (fun K hK => ?_) AllReadyH.nil
            refine step_appN (base := w7.heap.size) rfl (.tmp 53) (.tmp 55) 28 rfl 34 (.agg #[.int .i64 0, .int .i64 0]) 2 16 Try.underlying28 (by kernel_rfl) rfl (by omega) encEv_len one_ev A5 c5 (l.length) (([] : List Ev) ++ l.take (l.length)) HL5.out rfl hv5 _ 1 _ 1 [((k, d) : Ev)] rfl rfl (Ls.blkc b1 rfl) (by unfold maxLen; omega) (by omega) hHeld.1.size (l.length + 1) (by omega) ?_
            intro A6 c6 v46 hv6 hw6
            have hwi := hw6.below (B := w7.heap.size) hHeld.1.size (fun q hq => (hv5.block hq).1)
            replace b7 := b7.wr hw6 (hv5.ne_blk2 b7 (by decide))
            refine hK.out _ _ (HK.out _ (hHeld.1.trans hwi)) (fun hH2 => ?_)
            clear hK K hHeld
            have hHeld := hH2
            clear hH2
            clear hwi
            try simp only [Act.put, List.setIfInBounds_toArray, List.set_cons_zero, List.set_cons_succ, List.getElem_toArray, List.getElem_cons_succ, List.getElem_cons_zero]
            refine wpAnyH_ready (rs := [19]) (by kernel_rfl) (by simp) ?_
            refine AllReadyH.cons rfl (fun K hK => ?_) AllReadyH.nil
            refine step_appN (base := w7.heap.size) rfl (.tmp 56) (.tmp 60) 28 rfl 34 (.agg #[.int .i64 0, .int .i64 0]) 2 16 Try.underlying28 (by kernel_rfl) rfl (by omega) encEv_len one_ev A6 c6 (l.length + 1) ((([] : List Ev) ++ l.take (l.length)) ++ [((k, d) : Ev)]) (by rw [List.length_append, HL5.out]; rfl) rfl hv6 _ _ 0 0 ([] : List Ev) rfl rfl (Ls.none_ (A := _) (B := 0)) (by unfold maxLen; omega) (by omega) hHeld.1.size (l.length + 1) (by omega) ?_
            intro A7 c7 v47 hv7 hw7
            have hwi := hw7.below (B := w7.heap.size) hHeld.1.size (fun q hq => (hv6.block hq).1)
            replace b7 := b7.wr hw7 (hv6.ne_blk2 b7 (by decide))
            refine hK.out _ _ (HK.out _ (hHeld.1.trans hwi)) (fun hH2 => ?_)
            clear hK K hHeld
            have hHeld := hH2
            clear hH2
            clear hwi
            try simp only [Act.put, List.setIfInBounds_toArray, List.set_cons_zero, List.set_cons_succ, List.getElem_toArray, List.getElem_cons_succ, List.getElem_cons_zero]
            refine wpAnyH_take (i := 20) (v := ?v58) rfl (by kernel_rfl) (by kernel_rfl) (by kernel_rfl) (fun _ _ _ h => h) (Or.inl ⟨by rfl, ?hy58⟩) hHeld ?rest58
            case hy58 => (intro W hSw; (try dsimp only at hSw); go_simp) <;> with_reducible rfl
            try simp only [Act.put, List.setIfInBounds_toArray, List.set_cons_zero, List.set_cons_succ, List.getElem_toArray, List.getElem_cons_succ, List.getElem_cons_zero]
            refine wpAnyH_ready (rs := [22]) (by kernel_rfl) (by simp) ?_
            refine AllReadyH.cons rfl (fun K hK => ?_) AllReadyH.nil
            have c70 := b7.cell 0
            have c71 := b7.cell 1
            have c72 := b7.cell 2
            have c73 := b7.cell 3
            have f70 := b7.frozen 0
            have f71 := b7.frozen 1
            have f72 := b7.frozen 2
            have f73 := b7.frozen 3
            go_simp
            refine hK.out _ _ (HK.out _ (Below.setCell (Below.setCell (Below.setCell (Below.setCell hHeld.1 (p := ⟨N7, 0, none⟩) hzN7 (.int .i64 id)) (p := ⟨N7, 1, none⟩) hzN7 (.int .i64 series)) (p := ⟨N7, 2, none⟩) hzN7 (.int .i64 made)) (p := ⟨N7, 3, none⟩) hzN7 (.slice A7 (l.length + 1) c7))) (fun hH2 => ?_)
            clear hK K hHeld
            have hHeld := hH2
            clear hH2
            have hwr : Wr (fun q => q = N7) v47 ((((v47.setCell ⟨N7, 0, none⟩ (.int .i64 id)).setCell ⟨N7, 1, none⟩ (.int .i64 series)).setCell ⟨N7, 2, none⟩ (.int .i64 made)).setCell ⟨N7, 3, none⟩ (.slice A7 (l.length + 1) c7)) := (Wr.setCell (p := ⟨N7, 3, none⟩) (Wr.setCell (p := ⟨N7, 2, none⟩) (Wr.setCell (p := ⟨N7, 1, none⟩) (Wr.setCell (p := ⟨N7, 0, none⟩) (Wr.refl (fun q => q = N7) v47) (.inl rfl) (.int .i64 id)) (.inl rfl) (.int .i64 series)) (.inl rfl) (.int .i64 made)) (.inl rfl) (.slice A7 (l.length + 1) c7))
            have ho8 : Blk ((((v47.setCell ⟨N7, 0, none⟩ (.int .i64 id)).setCell ⟨N7, 1, none⟩ (.int .i64 series)).setCell ⟨N7, 2, none⟩ (.int .i64 made)).setCell ⟨N7, 3, none⟩ (.slice A7 (l.length + 1) c7)) N7 30 (cellsT id series made (.slice A7 (l.length + 1) c7)) := by
              have h := (Blk.set_ (Blk.set_ (Blk.set_ (Blk.set_ b7 0 (.int .i64 id)) 1 (.int .i64 series)) 2 (.int .i64 made)) 3 (.slice A7 (l.length + 1) c7))
              simpa [cellsT] using h
            have hv8 := hv7.wr1 hwr (hv7.ne_blk2 b7 (by decide))
            try simp only [Act.put, List.setIfInBounds_toArray, List.set_cons_zero, List.set_cons_succ, List.getElem_toArray, List.getElem_cons_succ, List.getElem_cons_zero]
            refine wpAnyH_done (by kernel_rfl) ?_ _
            refine NoPanic.normal ?_
            have hB8 := hB7.trans (hHeld.1.mono (show w.heap.size ≤ w7.heap.size by omega))
            rw [HE.out] at hv8
            exact HT.out _ _ _ _ _ _ _ _ _ _ _ _ _ _ _ _ _ _ _ _ _ _ _ _ _ _ _ _ _ _ _ _ _ _ _ _ _ _ _ _ _ _ _ _ _ _ _ _ _ _ _ _ _ _ _ _ _ _ _ _ _ _ _ _ _ _ _ _ _ ho8 (hv8.mono (by omega)) (hy7.below hHeld.1 (by omega)) hB8 (by omega)
      · go_simp
        refine hK.out _ _ (HK.out _ (Below.alloc hHeld.1 hHeld.1.size _)) (fun hH2 => ?_)
        have hzN1 : w7.heap.size ≤ v0.heap.size := hHeld.1.size
        clear hK K hHeld
        have hHeld := hH2
        clear hH2
        have b1 : Blk (v0.alloc (.cells #[.int .i64 k, .int .i64 d] 34)) v0.heap.size 34 #[.int .i64 k, .int .i64 d] := Blk.new v0 34 #[.int .i64 k, .int .i64 d]
        generalize (v0.alloc (.cells #[.int .i64 k, .int .i64 d] 34)) = v49 at *
        generalize v0.heap.size = N1 at *
        try simp only [Act.put, List.setIfInBounds_toArray, List.set_cons_zero, List.set_cons_succ, List.getElem_toArray, List.getElem_cons_succ, List.getElem_cons_zero]
        refine wpAnyH_ready (rs := [6, 21]) (by kernel_rfl) (by simp) ?_
        refine AllReadyH.cons rfl (fun K hK => ?_) (AllReadyH.cons rfl (fun K hK => ?_) AllReadyH.nil)
        · go_simp
          refine hK.out _ _ (HK.out _ (Below.alloc hHeld.1 hHeld.1.size _)) (fun hH2 => ?_)
          have hzN0 : w7.heap.size ≤ v49.heap.size := hHeld.1.size
          clear hK K hHeld
          have hHeld := hH2
          clear hH2
          have lt_N1_N0 : N1 < v49.heap.size := b1.lt
          replace b1 := b1.alloc (.cells #[] 34)
          have b0 : Blk (v49.alloc (.cells #[] 34)) v49.heap.size 34 #[] := Blk.new v49 34 #[]
          generalize (v49.alloc (.cells #[] 34)) = v50 at *
          generalize v49.heap.size = N0 at *
          try simp only [Act.put, List.setIfInBounds_toArray, List.set_cons_zero, List.set_cons_succ, List.getElem_toArray, List.getElem_cons_succ, List.getElem_cons_zero]
          refine wpAnyH_ready (rs := [11, 21]) (by kernel_rfl) (by simp) ?_
          refine AllReadyH.cons rfl (fun K hK => ?_) (AllReadyH.cons rfl (fun K hK => ?_) AllReadyH.nil)
          · refine step_appN (base := w7.heap.size) rfl (.tmp 48) (.tmp 52) 28 rfl 34 (.agg #[.int .i64 0, .int .i64 0]) 2 16 Try.underlying28 (by kernel_rfl) rfl (by omega) encEv_len one_ev _ 0 0 ([] : List Ev) rfl rfl (Vec.empty_at (base := w7.heap.size) b0 hzN0) A c _ (l.length) (l.take (l.length)) hlk rfl (HLt.out _ hHeld.1) (by unfold maxLen; omega) (by omega) hHeld.1.size (l.length) (by omega) ?_
            intro A5 c5 v51 hv5 hw5
            have hwi := hw5.below (B := w7.heap.size) hHeld.1.size (fun q hq => by obtain ⟨_, hx⟩ := hq; cases hx; exact hzN0)
            replace b1 := b1.wr hw5 (fun hq => by obtain ⟨_, hx⟩ := hq; cases hx; omega)
            refine hK.out _ _ (HK.out _ (hHeld.1.trans hwi)) (fun hH2 => ?_)
            clear hK K hHeld
            have hHeld := hH2
            clear hH2
            clear hwi
            try simp only [Act.put, List.setIfInBounds_toArray, List.set_cons_zero, List.set_cons_succ, List.getElem_toArray, List.getElem_cons_succ, List.getElem_cons_zero]
            refine wpAnyH_ready (rs := [14, 21]) (by kernel_rfl) (by simp) ?_
            refine AllReadyH.cons rfl (fun K hK => ?_) (AllReadyH.cons rfl (fun K hK => ?_) AllReadyH.nil)
            · refine step_appN (base := w7.heap.size) rfl (.tmp 53) (.tmp 55) 28 rfl 34 (.agg #[.int .i64 0, .int .i64 0]) 2 16 Try.underlying28 (by kernel_rfl) rfl (by omega) encEv_len one_ev A5 c5 (l.length) (([] : List Ev) ++ l.take (l.length)) HL5.out rfl hv5 _ 1 _ 1 [((k, d) : Ev)] rfl rfl (Ls.blkc b1 rfl) (by unfold maxLen; omega) (by omega) hHeld.1.size (l.length + 1) (by omega) ?_
              intro A6 c6 v52 hv6 hw6
              have hwi := hw6.below (B := w7.heap.size) hHeld.1.size (fun q hq => (hv5.block hq).1)
              refine hK.out _ _ (HK.out _ (hHeld.1.trans hwi)) (fun hH2 => ?_)
              clear hK K hHeld
              have hHeld := hH2
              clear hH2
              clear hwi
              try simp only [Act.put, List.setIfInBounds_toArray, List.set_cons_zero, List.set_cons_succ, List.getElem_toArray, List.getElem_cons_succ, List.getElem_cons_zero]
              refine wpAnyH_ready (rs := [19, 21]) (by kernel_rfl) (by simp) ?_
              refine AllReadyH.cons rfl (fun K hK => ?_) (AllReadyH.cons rfl (fun K hK => ?_) AllReadyH.nil)
              · refine step_appN (base := w7.heap.size) rfl (.tmp 56) (.tmp 60) 28 rfl 34 (.agg #[.int .i64 0, .int .i64 0]) 2 16 Try.underlying28 (by kernel_rfl) rfl (by omega) encEv_len one_ev A6 c6 (l.length + 1) ((([] : List Ev) ++ l.take (l.length)) ++ [((k, d) : Ev)]) (by rw [List.length_append, HL5.out]; rfl) rfl hv6 _ _ 0 0 ([] : List Ev) rfl rfl (Ls.none_ (A := _) (B := 0)) (by unfold maxLen; omega) (by omega) hHeld.1.size (l.length + 1) (by omega) ?_
                intro A7 c7 v53 hv7 hw7
                have hwi := hw7.below (B := w7.heap.size) hHeld.1.size (fun q hq => (hv6.block hq).1)
                refine hK.out _ _ (HK.out _ (hHeld.1.trans hwi)) (fun hH2 => ?_)
                clear hK K hHeld
                have hHeld := hH2
                clear hH2
                clear hwi
                try simp only [Act.put, List.setIfInBounds_toArray, List.set_cons_zero, List.set_cons_succ, List.getElem_toArray, List.getElem_cons_succ, List.getElem_cons_zero]
                refine wpAnyH_take (i := 20) (v := ?v59) rfl (by kernel_rfl) (by kernel_rfl) (by kernel_rfl) (fun _ _ _ h => h) (Or.inl ⟨by rfl, ?hy59⟩) hHeld ?rest59
                case hy59 => (intro W hSw; (try dsimp only at hSw); go_simp) <;> with_reducible rfl
                try simp only [Act.put, List.setIfInBounds_toArray, List.set_cons_zero, List.set_cons_succ, List.getElem_toArray, List.getElem_cons_succ, List.getElem_cons_zero]
                refine wpAnyH_ready (rs := [21]) (by kernel_rfl) (by simp) ?_
                refine AllReadyH.cons rfl (fun K hK => ?_) AllReadyH.nil
                go_simp
                refine hK.out _ _ (HK.out _ (Below.alloc hHeld.1 hHeld.1.size _)) (fun hH2 => ?_)
                have hzN7 : w7.heap.size ≤ v53.heap.size := hHeld.1.size
                clear hK K hHeld
                have hHeld := hH2
                clear hH2
                replace hv7 := hv7.alloc (.cells #[.int .i64 0, .int .i64 0, .int .i64 0, .slice none 0 0] 30)
                have b7 : Blk (v53.alloc (.cells #[.int .i64 0, .int .i64 0, .int .i64 0, .slice none 0 0] 30)) v53.heap.size 30 #[.int .i64 0, .int .i64 0, .int .i64 0, .slice none 0 0] := Blk.new v53 30 #[.int .i64 0, .int .i64 0, .int .i64 0, .slice none 0 0]
                generalize (v53.alloc (.cells #[.int .i64 0, .int .i64 0, .int .i64 0, .slice none 0 0] 30)) = v54 at *
                generalize v53.heap.size = N7 at *
                try simp only [Act.put, List.setIfInBounds_toArray, List.set_cons_zero, List.set_cons_succ, List.getElem_toArray, List.getElem_cons_succ, List.getElem_cons_zero]
                refine wpAnyH_ready (rs := [22]) (by kernel_rfl) (by simp) ?_
                refine AllReadyH.cons rfl (fun K hK => ?_) AllReadyH.nil
                have c70 := b7.cell 0
                have c71 := b7.cell 1
                have c72 := b7.cell 2
                have c73 := b7.cell 3
                have f70 := b7.frozen 0
                have f71 := b7.frozen 1
                have f72 := b7.frozen 2
                have f73 := b7.frozen 3
                go_simp
                refine hK.out _ _ (HK.out _ (Below.setCell (Below.setCell (Below.setCell (Below.setCell hHeld.1 (p := ⟨N7, 0, none⟩) hzN7 (.int .i64 id)) (p := ⟨N7, 1, none⟩) hzN7 (.int .i64 series)) (p := ⟨N7, 2, none⟩) hzN7 (.int .i64 made)) (p := ⟨N7, 3, none⟩) hzN7 (.slice A7 (l.length + 1) c7))) (fun hH2 => ?_)
                clear hK K hHeld
                have hHeld := hH2
                clear hH2
                have hwr : Wr (fun q => q = N7) v54 ((((v54.setCell ⟨N7, 0, none⟩ (.int .i64 id)).setCell ⟨N7, 1, none⟩ (.int .i64 series)).setCell ⟨N7, 2, none⟩ (.int .i64 made)).setCell ⟨N7, 3, none⟩ (.slice A7 (l.length + 1) c7)) := (Wr.setCell (p := ⟨N7, 3, none⟩) (Wr.setCell (p := ⟨N7, 2, none⟩) (Wr.setCell (p := ⟨N7, 1, none⟩) (Wr.setCell (p := ⟨N7, 0, none⟩) (Wr.refl (fun q => q = N7) v54) (.inl rfl) (.int .i64 id)) (.inl rfl) (.int .i64 series)) (.inl rfl) (.int .i64 made)) (.inl rfl) (.slice A7 (l.length + 1) c7))
                have ho8 : Blk ((((v54.setCell ⟨N7, 0, none⟩ (.int .i64 id)).setCell ⟨N7, 1, none⟩ (.int .i64 series)).setCell ⟨N7, 2, none⟩ (.int .i64 made)).setCell ⟨N7, 3, none⟩ (.slice A7 (l.length + 1) c7)) N7 30 (cellsT id series made (.slice A7 (l.length + 1) c7)) := by
                  have h := (Blk.set_ (Blk.set_ (Blk.set_ (Blk.set_ b7 0 (.int .i64 id)) 1 (.int .i64 series)) 2 (.int .i64 made)) 3 (.slice A7 (l.length + 1) c7))
                  simpa [cellsT] using h
                have hv8 := hv7.wr1 hwr (hv7.ne_blk2 b7 (by decide))
                try simp only [Act.put, List.setIfInBounds_toArray, List.set_cons_zero, List.set_cons_succ, List.getElem_toArray, List.getElem_cons_succ, List.getElem_cons_zero]
                refine wpAnyH_done (by kernel_rfl) ?_ _
                refine NoPanic.normal ?_
                have hB8 := hB7.trans (hHeld.1.mono (show w.heap.size ≤ w7.heap.size by omega))
                rw [HE.out] at hv8
                exact HT.out _ _ _ _ _ _ _ _ _ _ _ _ _ _ _ _ _ _ _ _ _ _ _ _ _ _ _ _ _ _ _ _ _ _ _ _ _ _ _ _ _ _ _ _ _ _ _ _ _ _ _ _ _ _ _ _ _ _ _ _ _ _ _ _ _ _ _ _ _ ho8 (hv8.mono (by omega)) (hy7.below hHeld.1 (by omega)) hB8 (by omega)
              · go_simp
                refine hK.out _ _ (HK.out _ (Below.alloc hHeld.1 hHeld.1.size _)) (fun hH2 => ?_)
                have hzN7 : w7.heap.size ≤ v52.heap.size := hHeld.1.size
                clear hK K hHeld
                have hHeld := hH2
                clear hH2
                replace hv6 := hv6.alloc (.cells #[.int .i64 0, .int .i64 0, .int .i64 0, .slice none 0 0] 30)
                have b7 : Blk (v52.alloc (.cells #[.int .i64 0, .int .i64 0, .int .i64 0, .slice none 0 0] 30)) v52.heap.size 30 #[.int .i64 0, .int .i64 0, .int .i64 0, .slice none 0 0] := Blk.new v52 30 #[.int .i64 0, .int .i64 0, .int .i64 0, .slice none 0 0]
                generalize (v52.alloc (.cells #[.int .i64 0, .int .i64 0, .int .i64 0, .slice none 0 0] 30)) = v56 at *
                generalize v52.heap.size = N7 at *
                try simp only [Act.put, List.setIfInBounds_toArray, List.set_cons_zero, List.set_cons_succ, List.getElem_toArray, List.getElem_cons_succ, List.getElem_cons_zero]
                refine wpAnyH_ready (rs := [19]) (by kernel_rfl) (by simp) ?_
                refine AllReadyH.cons rfl (fun K hK => ?_) AllReadyH.nil
                refine step_appN (base := w7.heap.size) rfl (.tmp 56) (.tmp 60) 28 rfl 34 (.agg #[.int .i64 0, .int .i64 0]) 2 16 Try.underlying28 (by kernel_rfl) rfl (by omega) encEv_len one_ev A6 c6 (l.length + 1) ((([] : List Ev) ++ l.take (l.length)) ++ [((k, d) : Ev)]) (by rw [List.length_append, HL5.out]; rfl) rfl hv6 _ _ 0 0 ([] : List Ev) rfl rfl (Ls.none_ (A := _) (B := 0)) (by unfold maxLen; omega) (by omega) hHeld.1.size (l.length + 1) (by omega) ?_
                intro A7 c7 v57 hv7 hw7
                have hwi := hw7.below (B := w7.heap.size) hHeld.1.size (fun q hq => (hv6.block hq).1)
                replace b7 := b7.wr hw7 (hv6.ne_blk2 b7 (by decide))
                refine hK.out _ _ (HK.out _ (hHeld.1.trans hwi)) (fun hH2 => ?_)
                clear hK K hHeld
                have hHeld := hH2
                clear hH2
                clear hwi
                try simp only [Act.put, List.setIfInBounds_toArray, List.set_cons_zero, List.set_cons_succ, List.getElem_toArray, List.getElem_cons_succ, List.getElem_cons_zero]
                refine wpAnyH_take (i := 20) (v := ?v60) rfl (by kernel_rfl) (by kernel_rfl) (by kernel_rfl) (fun _ _ _ h => h) (Or.inl ⟨by rfl, ?hy60⟩) hHeld ?rest60
                case hy60 => (intro W hSw; (try dsimp only at hSw); go_simp) <;> with_reducible rfl
                try simp only [Act.put, List.setIfInBounds_toArray, List.set_cons_zero, List.set_cons_succ, List.getElem_toArray, List.getElem_cons_succ, List.getElem_cons_zero]
                refine wpAnyH_ready (rs := [22]) (by kernel_rfl) (by simp) ?_
                refine AllReadyH.cons rfl (fun K hK => ?_) AllReadyH.nil
                have c70 := b7.cell 0
                have c71 := b7.cell 1
                have c72 := b7.cell 2
                have c73 := b7.cell 3
                have f70 := b7.frozen 0
                have f71 := b7.frozen 1
                have f72 := b7.frozen 2
                have f73 := b7.frozen 3
                go_simp
                refine hK.out _ _ (HK.out _ (Below.setCell (Below.setCell (Below.setCell (Below.setCell hHeld.1 (p := ⟨N7, 0, none⟩) hzN7 (.int .i64 id)) (p := ⟨N7, 1, none⟩) hzN7 (.int .i64 series)) (p := ⟨N7, 2, none⟩) hzN7 (.int .i64 made)) (p := ⟨N7, 3, none⟩) hzN7 (.slice A7 (l.length + 1) c7))) (fun hH2 => ?_)
                clear hK K hHeld
                have hHeld := hH2
                clear hH2
                have hwr : Wr (fun q => q = N7) v57 ((((v57.setCell ⟨N7, 0, none⟩ (.int .i64 id)).setCell ⟨N7, 1, none⟩ (.int .i64 series)).setCell ⟨N7, 2, none⟩ (.int .i64 made)).setCell ⟨N7, 3, none⟩ (.slice A7 (l.length + 1) c7)) := (Wr.setCell (p := ⟨N7, 3, none⟩) (Wr.setCell (p := ⟨N7, 2, none⟩) (Wr.setCell (p := ⟨N7, 1, none⟩) (Wr.setCell (p := ⟨N7, 0, none⟩) (Wr.refl (fun q => q = N7) v57) (.inl rfl) (.int .i64 id)) (.inl rfl) (.int .i64 series)) (.inl rfl) (.int .i64 made)) (.inl rfl) (.slice A7 (l.length + 1) c7))
                have ho8 : Blk ((((v57.setCell ⟨N7, 0, none⟩ (.int .i64 id)).setCell ⟨N7, 1, none⟩ (.int .i64 series)).setCell ⟨N7, 2, none⟩ (.int .i64 made)).setCell ⟨N7, 3, none⟩ (.slice A7 (l.length + 1) c7)) N7 30 (cellsT id series made (.slice A7 (l.length + 1) c7)) := by
                  have h := (Blk.set_ (Blk.set_ (Blk.set_ (Blk.set_ b7 0 (.int .i64 id)) 1 (.int .i64 series)) 2 (.int .i64 made)) 3 (.slice A7 (l.length + 1) c7))
                  simpa [cellsT] using h
                have hv8 := hv7.wr1 hwr (hv7.ne_blk2 b7 (by decide))
                try simp only [Act.put, List.setIfInBounds_toArray, List.set_cons_zero, List.set_cons_succ, List.getElem_toArray, List.getElem_cons_succ, List.getElem_cons_zero]
                refine wpAnyH_done (by kernel_rfl) ?_ _
                refine NoPanic.normal ?_
                have hB8 := hB7.trans (hHeld.1.mono (show w.heap.size ≤ w7.heap.size by omega))
                rw [HE.out] at hv8
                exact HT.out _ _ _ _ _ _ _ _ _ _ _ _ _ _ _ _ _ _ _ _ _ _ _ _ _ _ _ _ _ _ _ _ _ _ _ _ _ _ _ _ _ _ _ _ _ _ _ _ _ _ _ _ _ _ _ _ _ _ _ _ _ _ _ _ _ _ _ _ _ ho8 (hv8.mono (by omega)) (hy7.below hHeld.1 (by omega)) hB8 (by omega)
            · go_simp
              refine hK.out _ _ (HK.out _ (Below.alloc hHeld.1 hHeld.1.size _)) (fun hH2 => ?_)
              have hzN7 : w7.heap.size ≤ v51.heap.size := hHeld.1.size
              clear hK K hHeld
              have hHeld := hH2
              clear hH2
              have lt_N1_N7 : N1 < v51.heap.size := b1.lt
              replace b1 := b1.alloc (.cells #[.int .i64 0, .int .i64 0, .int .i64 0, .slice none 0 0] 30)
              replace hv5 := hv5.alloc (.cells #[.int .i64 0, .int .i64 0, .int .i64 0, .slice none 0 0] 30)
              have b7 : Blk (v51.alloc (.cells #[.int .i64 0, .int .i64 0, .int .i64 0, .slice none 0 0] 30)) v51.heap.size 30 #[.int .i64 0, .int .i64 0, .int .i64 0, .slice none 0 0] := Blk.new v51 30 #[.int .i64 0, .int .i64 0, .int .i64 0, .slice none 0 0]
              generalize (v51.alloc (.cells #[.int .i64 0, .int .i64 0, .int .i64 0, .slice none 0 0] 30)) = v59 at *
              generalize v51.heap.size = N7 at *
              try simp only [Act.put, List.setIfInBounds_toArray, List.set_cons_zero, List.set_cons_succ, List.getElem_toArray, List.getElem_cons_succ, List.getElem_cons_zero]
              refine wpAnyH_ready (rs := [14]) (by kernel_rfl) (by simp) ?_
              refine AllReadyH.cons rfl (fun K hK => ?_) AllReadyH.nil
              refine step_appN (base := w7.heap.size) rfl (.tmp 53) (.tmp 55) 28 rfl 34 (.agg #[.int .i64 0, .int .i64 0]) 2 16 Try.underlying28 (by kernel_rfl) rfl (by omega) encEv_len one_ev A5 c5 (l.length) (([] : List Ev) ++ l.take (l.length)) HL5.out rfl hv5 _ 1 _ 1 [((k, d) : Ev)] rfl rfl (Ls.blkc b1 rfl) (by unfold maxLen; omega) (by omega) hHeld.1.size (l.length + 1) (by omega) ?_
              intro A6 c6 v60 hv6 hw6
              have hwi := hw6.below (B := w7.heap.size) hHeld.1.size (fun q hq => (hv5.block hq).1)
              replace b7 := b7.wr hw6 (hv5.ne_blk2 b7 (by decide))
              refine hK.out _ _ (HK.out _ (hHeld.1.trans hwi)) (fun hH2 => ?_)
              clear hK K hHeld
              have hHeld := hH2
              clear hH2
              clear hwi
              try simp only [Act.put, List.setIfInBounds_toArray, List.set_cons_zero, List.set_cons_succ, List.getElem_toArray, List.getElem_cons_succ, List.getElem_cons_zero]
              refine wpAnyH_ready (rs := [19]) (by kernel_rfl) (by simp) ?_
              refine AllReadyH.cons rfl (fun K hK => ?_) AllReadyH.nil
              refine step_appN (base := w7.heap.size) rfl (.tmp 56) (.tmp 60) 28 rfl 34 (.agg #[.int .i64 0, .int .i64 0]) 2 16 Try.underlying28 (by kernel_rfl) rfl (by omega) encEv_len one_ev A6 c6 (l.length + 1) ((([] : List Ev) ++ l.take (l.length)) ++ [((k, d) : Ev)]) (by rw [List.length_append, HL5.out]; rfl) rfl hv6 _ _ 0 0 ([] : List Ev) rfl rfl (Ls.none_ (A := _) (B := 0)) (by unfold maxLen; omega) (by omega) hHeld.1.size (l.length + 1) (by omega) ?_
              intro A7 c7 v61 hv7 hw7
              have hwi := hw7.below (B := w7.heap.size) hHeld.1.size (fun q hq => (hv6.block hq).1)
              replace b7 := b7.wr hw7 (hv6.ne_blk2 b7 (by decide))
              refine hK.out _ _ (HK.out _ (hHeld.1.trans hwi)) (fun hH2 => ?_)
              clear hK K hHeld
              have hHeld := hH2
              clear hH2
              clear hwi
              try simp only [Act.put, List.setIfInBounds_toArray, List.set_cons_zero, List.set_cons_succ, List.getElem_toArray, List.getElem_cons_succ, List.getElem_cons_zero]
              refine wpAnyH_take (i := 20) (v := ?v61) rfl (by kernel_rfl) (by kernel_rfl) (by kernel_rfl) (fun _ _ _ h => h) (Or.inl ⟨by rfl, ?hy61⟩) hHeld ?rest61
              case hy61 => (intro W hSw; (try dsimp only at hSw); go_simp) <;> with_reducible rfl
              try simp only [Act.put, List.setIfInBounds_toArray, List.set_cons_zero, List.set_cons_succ, List.getElem_toArray, List.getElem_cons_succ, List.getElem_cons_zero]
              refine wpAnyH_ready (rs := [22]) (by kernel_rfl) (by simp) ?_
              refine AllReadyH.cons rfl (fun K hK => ?_) AllReadyH.nil
              have c70 := b7.cell 0
              have c71 := b7.cell 1
              have c72 := b7.cell 2
              have c73 := b7.cell 3
              have f70 := b7.frozen 0
              have f71 := b7.frozen 1
              have f72 := b7.frozen 2
              have f73 := b7.frozen 3
              go_simp
              refine hK.out _ _ (HK.out _ (Below.setCell (Below.setCell (Below.setCell (Below.setCell hHeld.1 (p := ⟨N7, 0, none⟩) hzN7 (.int .i64 id)) (p := ⟨N7, 1, none⟩) hzN7 (.int .i64 series)) (p := ⟨N7, 2, none⟩) hzN7 (.int .i64 made)) (p := ⟨N7, 3, none⟩) hzN7 (.slice A7 (l.length + 1) c7))) (fun hH2 => ?_)
              clear hK K hHeld
              have hHeld := hH2
              clear hH2
              have hwr : Wr (fun q => q = N7) v61 ((((v61.setCell ⟨N7, 0, none⟩ (.int .i64 id)).setCell ⟨N7, 1, none⟩ (.int .i64 series)).setCell ⟨N7, 2, none⟩ (.int .i64 made)).setCell ⟨N7, 3, none⟩ (.slice A7 (l.length + 1) c7)) := (Wr.setCell (p := ⟨N7, 3, none⟩) (Wr.setCell (p := ⟨N7, 2, none⟩) (Wr.setCell (p := ⟨N7, 1, none⟩) (Wr.setCell (p := ⟨N7, 0, none⟩) (Wr.refl (fun q => q = N7) v61) (.inl rfl) (.int .i64 id)) (.inl rfl) (.int .i64 series)) (.inl rfl) (.int .i64 made)) (.inl rfl) (.slice A7 (l.length + 1) c7))
              have ho8 : Blk ((((v61.setCell ⟨N7, 0, none⟩ (.int .i64 id)).setCell ⟨N7, 1, none⟩ (.int .i64 series)).setCell ⟨N7, 2, none⟩ (.int .i64 made)).setCell ⟨N7, 3, none⟩ (.slice A7 (l.length + 1) c7)) N7 30 (cellsT id series made (.slice A7 (l.length + 1) c7)) := by
                have h := (Blk.set_ (Blk.set_ (Blk.set_ (Blk.set_ b7 0 (.int .i64 id)) 1 (.int .i64 series)) 2 (.int .i64 made)) 3 (.slice A7 (l.length + 1) c7))
                simpa [cellsT] using h
              have hv8 := hv7.wr1 hwr (hv7.ne_blk2 b7 (by decide))
              try simp only [Act.put, List.setIfInBounds_toArray, List.set_cons_zero, List.set_cons_succ, List.getElem_toArray, List.getElem_cons_succ, List.getElem_cons_zero]
              refine wpAnyH_done (by kernel_rfl) ?_ _
              refine NoPanic.normal ?_
              have hB8 := hB7.trans (hHeld.1.mono (show w.heap.size ≤ w7.heap.size by omega))
              rw [HE.out] at hv8
              exact HT.out _ _ _ _ _ _ _ _ _ _ _ _ _ _ _ _ _ _ _ _ _ _ _ _ _ _ _ _ _ _ _ _ _ _ _ _ _ _ _ _ _ _ _ _ _ _ _ _ _ _ _ _ _ _ _ _ _ _ _ _ _ _ _ _ _ _ _ _ _ ho8 (hv8.mono (by omega)) (hy7.below hHeld.1 (by omega)) hB8 (by omega)
          · go_simp
            refine hK.out _ _ (HK.out _ (Below.alloc hHeld.1 hHeld.1.size _)) (fun hH2 => ?_)
            have hzN7 : w7.heap.size ≤ v50.heap.size := hHeld.1.size
            clear hK K hHeld
            have hHeld := hH2
            clear hH2
            have lt_N1_N7 : N1 < v50.heap.size := b1.lt
            replace b1 := b1.alloc (.cells #[.int .i64 0, .int .i64 0, .int .i64 0, .slice none 0 0] 30)
            have lt_N0_N7 : N0 < v50.heap.size := b0.lt
            replace b0 := b0.alloc (.cells #[.int .i64 0, .int .i64 0, .int .i64 0, .slice none 0 0] 30)
            have b7 : Blk (v50.alloc (.cells #[.int .i64 0, .int .i64 0, .int .i64 0, .slice none 0 0] 30)) v50.heap.size 30 #[.int .i64 0, .int .i64 0, .int .i64 0, .slice none 0 0] := Blk.new v50 30 #[.int .i64 0, .int .i64 0, .int .i64 0, .slice none 0 0]
            generalize (v50.alloc (.cells #[.int .i64 0, .int .i64 0, .int .i64 0, .slice none 0 0] 30)) = v63 at *
            generalize v50.heap.size = N7 at *
            try simp only [Act.put, List.setIfInBounds_toArray, List.set_cons_zero, List.set_cons_succ, List.getElem_toArray, List.getElem_cons_succ, List.getElem_cons_zero]
            refine wpAnyH_ready (rs := [11]) (by kernel_rfl) (by simp) ?_
            refine AllReadyH.cons rfl (fun K hK => ?_) AllReadyH.nil
            refine step_appN (base := w7.heap.size) rfl (.tmp 48) (.tmp 52) 28 rfl 34 (.agg #[.int .i64 0, .int .i64 0]) 2 16 Try.underlying28 (by kernel_rfl) rfl (by omega) encEv_len one_ev _ 0 0 ([] : List Ev) rfl rfl (Vec.empty_at (base := w7.heap.size) b0 hzN0) A c _ (l.length) (l.take (l.length)) hlk rfl (HLt.out _ hHeld.1) (by unfold maxLen; omega) (by omega) hHeld.1.size (l.length) (by omega) ?_
            intro A5 c5 v64 hv5 hw5
            have hwi := hw5.below (B := w7.heap.size) hHeld.1.size (fun q hq => by obtain ⟨_, hx⟩ := hq; cases hx; exact hzN0)
            replace b1 := b1.wr hw5 (fun hq => by obtain ⟨_, hx⟩ := hq; cases hx; omega)
            replace b7 := b7.wr hw5 (fun hq => by obtain ⟨_, hx⟩ := hq; cases hx; omega)
            refine hK.out _ _ (HK.out _ (hHeld.1.trans hwi)) (fun hH2 => ?_)
            clear hK K hHeld
            have hHeld := hH2
            clear hH2
            clear hwi
            try simp only [Act.put, List.setIfInBounds_toArray, List.set_cons_zero, List.set_cons_succ, List.getElem_toArray, List.getElem_cons_succ, List.getElem_cons_zero]
            refine wpAnyH_ready (rs := [14]) (by kernel_rfl) (by simp) ?_
            refine AllReadyH.cons rfl (fun K hK => ?_) AllReadyH.nil
            refine step_appN (base := w7.heap.size) rfl (.tmp 53) (.tmp 55) 28 rfl 34 (.agg #[.int .i64 0, .int .i64 0]) 2 16 Try.underlying28 (by kernel_rfl) rfl (by omega) encEv_len one_ev A5 c5 (l.length) (([] : List Ev) ++ l.take (l.length)) HL5.out rfl hv5 _ 1 _ 1 [((k, d) : Ev)] rfl rfl (Ls.blkc b1 rfl) (by unfold maxLen; omega) (by omega) hHeld.1.size (l.length + 1) (by omega) ?_
            intro A6 c6 v65 hv6 hw6
            have hwi := hw6.below (B := w7.heap.size) hHeld.1.size (fun q hq => (hv5.block hq).1)
            replace b7 := b7.wr hw6 (hv5.ne_blk2 b7 (by decide))
            refine hK.out _ _ (HK.out _ (hHeld.1.trans hwi)) (fun hH2 => ?_)
            clear hK K hHeld
            have hHeld := hH2
            clear hH2
            clear hwi
            try simp only [Act.put, List.setIfInBounds_toArray, List.set_cons_zero, List.set_cons_succ, List.getElem_toArray, List.getElem_cons_succ, List.getElem_cons_zero]
            refine wpAnyH_ready (rs := [19]) (by kernel_rfl) (by simp) ?_
            refine AllReadyH.cons rfl (fun K hK => ?_) AllReadyH.nil
            refine step_appN (base := w7.heap.size) rfl (.tmp 56) (.tmp 60) 28 rfl 34 (.agg #[.int .i64 0, .int .i64 0]) 2 16 Try.underlying28 (by kernel_rfl) rfl (by omega) encEv_len one_ev A6 c6 (l.length + 1) ((([] : List Ev) ++ l.take (l.length)) ++ [((k, d) : Ev)]) (by rw [List.length_append, HL5.out]; rfl) rfl hv6 _ _ 0 0 ([] : List Ev) rfl rfl (Ls.none_ (A := _) (B := 0)) (by unfold maxLen; omega) (by omega) hHeld.1.size (l.length + 1) (by omega) ?_
            intro A7 c7 v66 hv7 hw7
            have hwi := hw7.below (B := w7.heap.size) hHeld.1.size (fun q hq => (hv6.block hq).1)
            replace b7 := b7.wr hw7 (hv6.ne_blk2 b7 (by decide))
            refine hK.out _ _ (HK.out _ (hHeld.1.trans hwi)) (fun hH2 => ?_)
            clear hK K hHeld
            have hHeld := hH2
            clear hH2
            clear hwi
            try simp only [Act.put, List.setIfInBounds_toArray, List.set_cons_zero, List.set_cons_succ, List.getElem_toArray, List.getElem_cons_succ, List.getElem_cons_zero]
            refine wpAnyH_take (i := 20) (v := ?v62) rfl (by kernel_rfl) (by kernel_rfl) (by kernel_rfl) (fun _ _ _ h => h) (Or.inl ⟨by rfl, ?hy62⟩) hHeld ?rest62
            case hy62 => (intro W hSw; (try dsimp only at hSw); go_simp) <;> with_reducible rfl
            try simp only [Act.put, List.setIfInBounds_toArray, List.set_cons_zero, List.set_cons_succ, List.getElem_toArray, List.getElem_cons_succ, List.getElem_cons_zero]
            refine wpAnyH_ready (rs := [22]) (by kernel_rfl) (by simp) ?_
            refine AllReadyH.cons rfl (fun K hK => ?_) AllReadyH.nil
            have c70 := b7.cell 0
            have c71 := b7.cell 1
            have c72 := b7.cell 2
            have c73 := b7.cell 3
            have f70 := b7.frozen 0
            have f71 := b7.frozen 1
            have f72 := b7.frozen 2
            have f73 := b7.frozen 3
            go_simp
            refine hK.out _ _ (HK.out _ (Below.setCell (Below.setCell (Below.setCell (Below.setCell hHeld.1 (p := ⟨N7, 0, none⟩) hzN7 (.int .i64 id)) (p := ⟨N7, 1, none⟩) hzN7 (.int .i64 series)) (p := ⟨N7, 2, none⟩) hzN7 (.int .i64 made)) (p := ⟨N7, 3, none⟩) hzN7 (.slice A7 (l.length + 1) c7))) (fun hH2 => ?_)
            clear hK K hHeld
            have hHeld := hH2
            clear hH2
            have hwr : Wr (fun q => q = N7) v66 ((((v66.setCell ⟨N7, 0, none⟩ (.int .i64 id)).setCell ⟨N7, 1, none⟩ (.int .i64 series)).setCell ⟨N7, 2, none⟩ (.int .i64 made)).setCell ⟨N7, 3, none⟩ (.slice A7 (l.length + 1) c7)) := (Wr.setCell (p := ⟨N7, 3, none⟩) (Wr.setCell (p := ⟨N7, 2, none⟩) (Wr.setCell (p := ⟨N7, 1, none⟩) (Wr.setCell (p := ⟨N7, 0, none⟩) (Wr.refl (fun q => q = N7) v66) (.inl rfl) (.int .i64 id)) (.inl rfl) (.int .i64 series)) (.inl rfl) (.int .i64 made)) (.inl rfl) (.slice A7 (l.length + 1) c7))
            have ho8 : Blk ((((v66.setCell ⟨N7, 0, none⟩ (.int .i64 id)).setCell ⟨N7, 1, none⟩ (.int .i64 series)).setCell ⟨N7, 2, none⟩ (.int .i64 made)).setCell ⟨N7, 3, none⟩ (.slice A7 (l.length + 1) c7)) N7 30 (cellsT id series made (.slice A7 (l.length + 1) c7)) := by
              have h := (Blk.set_ (Blk.set_ (Blk.set_ (Blk.set_ b7 0 (.int .i64 id)) 1 (.int .i64 series)) 2 (.int .i64 made)) 3 (.slice A7 (l.length + 1) c7))
              simpa [cellsT] using h
            have hv8 := hv7.wr1 hwr (hv7.ne_blk2 b7 (by decide))
            try simp only [Act.put, List.setIfInBounds_toArray, List.set_cons_zero, List.set_cons_succ, List.getElem_toArray, List.getElem_cons_succ, List.getElem_cons_zero]
            refine wpAnyH_done (by kernel_rfl) ?_ _
            refine NoPanic.normal ?_
            have hB8 := hB7.trans (hHeld.1.mono (show w.heap.size ≤ w7.heap.size by omega))
            rw [HE.out] at hv8
            exact HT.out _ _ _ _ _ _ _ _ _ _ _ _ _ _ _ _ _ _ _ _ _ _ _ _ _ _ _ _ _ _ _ _ _ _ _ _ _ _ _ _ _ _ _ _ _ _ _ _ _ _ _ _ _ _ _ _ _ _ _ _ _ _ _ _ _ _ _ _ _ ho8 (hv8.mono (by omega)) (hy7.below hHeld.1 (by omega)) hB8 (by omega)
        · go_simp
          refine hK.out _ _ (HK.out _ (Below.alloc hHeld.1 hHeld.1.size _)) (fun hH2 => ?_)
          have hzN7 : w7.heap.size ≤ v49.heap.size := hHeld.1.size
          clear hK K hHeld
          have hHeld := hH2
          clear hH2
          have lt_N1_N7 : N1 < v49.heap.size := b1.lt
          replace b1 := b1.alloc (.cells #[.int .i64 0, .int .i64 0, .int .i64 0, .slice none 0 0] 30)
          have b7 : Blk (v49.alloc (.cells #[.int .i64 0, .int .i64 0, .int .i64 0, .slice none 0 0] 30)) v49.heap.size 30 #[.int .i64 0, .int .i64 0, .int .i64 0, .slice none 0 0] := Blk.new v49 30 #[.int .i64 0, .int .i64 0, .int .i64 0, .slice none 0 0]
          generalize (v49.alloc (.cells #[.int .i64 0, .int .i64 0, .int .i64 0, .slice none 0 0] 30)) = v68 at *
          generalize v49.heap.size = N7 at *
          try simp only [Act.put, List.setIfInBounds_toArray, List.set_cons_zero, List.set_cons_succ, List.getElem_toArray, List.getElem_cons_succ, List.getElem_cons_zero]
          refine wpAnyH_ready (rs := [6]) (by kernel_rfl) (by simp) ?_
          refine AllReadyH.cons rfl (fun K hK => ?_) AllReadyH.nil
          go_simp
          refine hK.out _ _ (HK.out _ (Below.alloc hHeld.1 hHeld.1.size _)) (fun hH2 => ?_)
          have hzN0 : w7.heap.size ≤ v68.heap.size := hHeld.1.size
          clear hK K hHeld
          have hHeld := hH2
          clear hH2
          have lt_N1_N0 : N1 < v68.heap.size := b1.lt
          replace b1 := b1.alloc (.cells #[] 34)
          have lt_N7_N0 : N7 < v68.heap.size := b7.lt
          replace b7 := b7.alloc (.cells #[] 34)
          have b0 : Blk (v68.alloc (.cells #[] 34)) v68.heap.size 34 #[] := Blk.new v68 34 #[]
          generalize (v68.alloc (.cells #[] 34)) = v69 at *
          generalize v68.heap.size = N0 at *
          try simp only [Act.put, List.setIfInBounds_toArray, List.set_cons_zero, List.set_cons_succ, List.getElem_toArray, List.getElem_cons_succ, List.getElem_cons_zero]
          refine wpAnyH_ready (rs := [11]) (by kernel_rfl) (by simp) ?_
          refine AllReadyH.cons rfl (fun K hK => ?_) AllReadyH.nil
          refine step_appN (base := w7.heap.size) rfl (.tmp 48) (.tmp 52) 28 rfl 34 (.agg #[.int .i64 0, .int .i64 0]) 2 16 Try.underlying28 (by kernel_rfl) rfl (by omega) encEv_len one_ev _ 0 0 ([] : List Ev) rfl rfl (Vec.empty_at (base := w7.heap.size) b0 hzN0) A c _ (l.length) (l.take (l.length)) hlk rfl (HLt.out _ hHeld.1) (by unfold maxLen; omega) (by omega) hHeld.1.size (l.length) (by omega) ?_
          intro A5 c5 v70 hv5 hw5
          have hwi := hw5.below (B := w7.heap.size) hHeld.1.size (fun q hq => by obtain ⟨_, hx⟩ := hq; cases hx; exact hzN0)
          replace b1 := b1.wr hw5 (fun hq => by obtain ⟨_, hx⟩ := hq; cases hx; omega)
          replace b7 := b7.wr hw5 (fun hq => by obtain ⟨_, hx⟩ := hq; cases hx; omega)
          refine hK.out _ _ (HK.out _ (hHeld.1.trans hwi)) (fun hH2 => ?_)
          clear hK K hHeld
          have hHeld := hH2
          clear hH2
          clear hwi
          try simp only [Act.put, List.setIfInBounds_toArray, List.set_cons_zero, List.set_cons_succ, List.getElem_toArray, List.getElem_cons_succ, List.getElem_cons_zero]
          refine wpAnyH_ready (rs := [14]) (by kernel_rfl) (by simp) ?_
          refine AllReadyH.cons rfl (fun K hK => ?_) AllReadyH.nil
          refine step_appN (base := w7.heap.size) rfl (.tmp 53) (.tmp 55) 28 rfl 34 (.agg #[.int .i64 0, .int .i64 0]) 2 16 Try.underlying28 (by kernel_rfl) rfl (by omega) encEv_len one_ev A5 c5 (l.length) (([] : List Ev) ++ l.take (l.length)) HL5.out rfl hv5 _ 1 _ 1 [((k, d) : Ev)] rfl rfl (Ls.blkc b1 rfl) (by unfold maxLen; omega) (by omega) hHeld.1.size (l.length + 1) (by omega) ?_
          intro A6 c6 v71 hv6 hw6
          have hwi := hw6.below (B := w7.heap.size) hHeld.1.size (fun q hq => (hv5.block hq).1)
          replace b7 := b7.wr hw6 (hv5.ne_blk2 b7 (by decide))
          refine hK.out _ _ (HK.out _ (hHeld.1.trans hwi)) (fun hH2 => ?_)
          clear hK K hHeld
          have hHeld := hH2
          clear hH2
          clear hwi
          try simp only [Act.put, List.setIfInBounds_toArray, List.set_cons_zero, List.set_cons_succ, List.getElem_toArray, List.getElem_cons_succ, List.getElem_cons_zero]
          refine wpAnyH_ready (rs := [19]) (by kernel_rfl) (by simp) ?_
          refine AllReadyH.cons rfl (fun K hK => ?_) AllReadyH.nil
          refine step_appN (base := w7.heap.size) rfl (.tmp 56) (.tmp 60) 28 rfl 34 (.agg #[.int .i64 0, .int .i64 0]) 2 16 Try.underlying28 (by kernel_rfl) rfl (by omega) encEv_len one_ev A6 c6 (l.length + 1) ((([] : List Ev) ++ l.take (l.length)) ++ [((k, d) : Ev)]) (by rw [List.length_append, HL5.out]; rfl) rfl hv6 _ _ 0 0 ([] : List Ev) rfl rfl (Ls.none_ (A := _) (B := 0)) (by unfold maxLen; omega) (by omega) hHeld.1.size (l.length + 1) (by omega) ?_
          intro A7 c7 v72 hv7 hw7
          have hwi := hw7.below (B := w7.heap.size) hHeld.1.size (fun q hq => (hv6.block hq).1)
          replace b7 := b7.wr hw7 (hv6.ne_blk2 b7 (by decide))
          refine hK.out _ _ (HK.out _ (hHeld.1.trans hwi)) (fun hH2 => ?_)
          clear hK K hHeld
          have hHeld := hH2
          clear hH2
          clear hwi
          try simp only [Act.put, List.setIfInBounds_toArray, List.set_cons_zero, List.set_cons_succ, List.getElem_toArray, List.getElem_cons_succ, List.getElem_cons_zero]
          refine wpAnyH_take (i := 20) (v := ?v63) rfl (by kernel_rfl) (by kernel_rfl) (by kernel_rfl) (fun _ _ _ h => h) (Or.inl ⟨by rfl, ?hy63⟩) hHeld ?rest63
          case hy63 => (intro W hSw; (try dsimp only at hSw); go_simp) <;> with_reducible rfl
          try simp only [Act.put, List.setIfInBounds_toArray, List.set_cons_zero, List.set_cons_succ, List.getElem_toArray, List.getElem_cons_succ, List.getElem_cons_zero]
          refine wpAnyH_ready (rs := [22]) (by kernel_rfl) (by simp) ?_
          refine AllReadyH.cons rfl (fun K hK => ?_) AllReadyH.nil
          have c70 := b7.cell 0
          have c71 := b7.cell 1
          have c72 := b7.cell 2
          have c73 := b7.cell 3
          have f70 := b7.frozen 0
          have f71 := b7.frozen 1
          have f72 := b7.frozen 2
          have f73 := b7.frozen 3
          go_simp
          refine hK.out _ _ (HK.out _ (Below.setCell (Below.setCell (Below.setCell (Below.setCell hHeld.1 (p := ⟨N7, 0, none⟩) hzN7 (.int .i64 id)) (p := ⟨N7, 1, none⟩) hzN7 (.int .i64 series)) (p := ⟨N7, 2, none⟩) hzN7 (.int .i64 made)) (p := ⟨N7, 3, none⟩) hzN7 (.slice A7 (l.length + 1) c7))) (fun hH2 => ?_)
          clear hK K hHeld
          have hHeld := hH2
          clear hH2
          have hwr : Wr (fun q => q = N7) v72 ((((v72.setCell ⟨N7, 0, none⟩ (.int .i64 id)).setCell ⟨N7, 1, none⟩ (.int .i64 series)).setCell ⟨N7, 2, none⟩ (.int .i64 made)).setCell ⟨N7, 3, none⟩ (.slice A7 (l.length + 1) c7)) := (Wr.setCell (p := ⟨N7, 3, none⟩) (Wr.setCell (p := ⟨N7, 2, none⟩) (Wr.setCell (p := ⟨N7, 1, none⟩) (Wr.setCell (p := ⟨N7, 0, none⟩) (Wr.refl (fun q => q = N7) v72) (.inl rfl) (.int .i64 id)) (.inl rfl) (.int .i64 series)) (.inl rfl) (.int .i64 made)) (.inl rfl) (.slice A7 (l.length + 1) c7))
          have ho8 : Blk ((((v72.setCell ⟨N7, 0, none⟩ (.int .i64 id)).setCell ⟨N7, 1, none⟩ (.int .i64 series)).setCell ⟨N7, 2, none⟩ (.int .i64 made)).setCell ⟨N7, 3, none⟩ (.slice A7 (l.length + 1) c7)) N7 30 (cellsT id series made (.slice A7 (l.length + 1) c7)) := by
            have h := (Blk.set_ (Blk.set_ (Blk.set_ (Blk.set_ b7 0 (.int .i64 id)) 1 (.int .i64 series)) 2 (.int .i64 made)) 3 (.slice A7 (l.length + 1) c7))
            simpa [cellsT] using h
          have hv8 := hv7.wr1 hwr (hv7.ne_blk2 b7 (by decide))
          try simp only [Act.put, List.setIfInBounds_toArray, List.set_cons_zero, List.set_cons_succ, List.getElem_toArray, List.getElem_cons_succ, List.getElem_cons_zero]
          refine wpAnyH_done (by kernel_rfl) ?_ _
          refine NoPanic.normal ?_
          have hB8 := hB7.trans (hHeld.1.mono (show w.heap.size ≤ w7.heap.size by omega))
          rw [HE.out] at hv8
          exact HT.out _ _ _ _ _ _ _ _ _ _ _ _ _ _ _ _ _ _ _ _ _ _ _ _ _ _ _ _ _ _ _ _ _ _ _ _ _ _ _ _ _ _ _ _ _ _ _ _ _ _ _ _ _ _ _ _ _ _ _ _ _ _ _ _ _ _ _ _ _ ho8 (hv8.mono (by omega)) (hy7.below hHeld.1 (by omega)) hB8 (by omega)
      · go_simp
        refine hK.out _ _ (HK.out _ (Below.alloc hHeld.1 hHeld.1.size _)) (fun hH2 => ?_)
        have hzN7 : w7.heap.size ≤ v0.heap.size := hHeld.1.size
        clear hK K hHeld
        have hHeld := hH2
        clear hH2
        have b7 : Blk (v0.alloc (.cells #[.int .i64 0, .int .i64 0, .int .i64 0, .slice none 0 0] 30)) v0.heap.size 30 #[.int .i64 0, .int .i64 0, .int .i64 0, .slice none 0 0] := Blk.new v0 30 #[.int .i64 0, .int .i64 0, .int .i64 0, .slice none 0 0]
        generalize (v0.alloc (.cells #[.int .i64 0, .int .i64 0, .int .i64 0, .slice none 0 0] 30)) = v74 at *
        generalize v0.heap.size = N7 at *
        try simp only [Act.put, List.setIfInBounds_toArray, List.set_cons_zero, List.set_cons_succ, List.getElem_toArray, List.getElem_cons_succ, List.getElem_cons_zero]
        refine wpAnyH_ready (rs := [6, 13]) (by kernel_rfl) (by simp) ?_
        refine AllReadyH.cons rfl (fun K hK => ?_) (AllReadyH.cons rfl (fun K hK => ?_) AllReadyH.nil)
        · go_simp
          refine hK.out _ _ (HK.out _ (Below.alloc hHeld.1 hHeld.1.size _)) (fun hH2 => ?_)
          have hzN0 : w7.heap.size ≤ v74.heap.size := hHeld.1.size
          clear hK K hHeld
          have hHeld := hH2
          clear hH2
          have lt_N7_N0 : N7 < v74.heap.size := b7.lt
          replace b7 := b7.alloc (.cells #[] 34)
          have b0 : Blk (v74.alloc (.cells #[] 34)) v74.heap.size 34 #[] := Blk.new v74 34 #[]
          generalize (v74.alloc (.cells #[] 34)) = v75 at *
          generalize v74.heap.size = N0 at *
          try simp only [Act.put, List.setIfInBounds_toArray, List.set_cons_zero, List.set_cons_succ, List.getElem_toArray, List.getElem_cons_succ, List.getElem_cons_zero]
          refine wpAnyH_ready (rs := [11, 13]) (by kernel_rfl) (by simp) ?_
          refine AllReadyH.cons rfl (fun K hK => ?_) (AllReadyH.cons rfl (fun K hK => ?_) AllReadyH.nil)
          · refine step_appN (base := w7.heap.size) rfl (.tmp 48) (.tmp 52) 28 rfl 34 (.agg #[.int .i64 0, .int .i64 0]) 2 16 Try.underlying28 (by kernel_rfl) rfl (by omega) encEv_len one_ev _ 0 0 ([] : List Ev) rfl rfl (Vec.empty_at (base := w7.heap.size) b0 hzN0) A c _ (l.length) (l.take (l.length)) hlk rfl (HLt.out _ hHeld.1) (by unfold maxLen; omega) (by omega) hHeld.1.size (l.length) (by omega) ?_
            intro A5 c5 v76 hv5 hw5
            have hwi := hw5.below (B := w7.heap.size) hHeld.1.size (fun q hq => by obtain ⟨_, hx⟩ := hq; cases hx; exact hzN0)
            replace b7 := b7.wr hw5 (fun hq => by obtain ⟨_, hx⟩ := hq; cases hx; omega)
            refine hK.out _ _ (HK.out _ (hHeld.1.trans hwi)) (fun hH2 => ?_)
            clear hK K hHeld
            have hHeld := hH2
            clear hH2
            clear hwi
            try simp only [Act.put, List.setIfInBounds_toArray, List.set_cons_zero, List.set_cons_succ, List.getElem_toArray, List.getElem_cons_succ, List.getElem_cons_zero]
            refine wpAnyH_ready (rs := [13]) (by kernel_rfl) (by simp) ?_
            refine AllReadyH.cons rfl (fun K hK => ?_) AllReadyH.nil
            go_simp
            refine hK.out _ _ (HK.out _ (Below.alloc hHeld.1 hHeld.1.size _)) (fun hH2 => ?_)
            have hzN1 : w7.heap.size ≤ v76.heap.size := hHeld.1.size
            clear hK K hHeld
            have hHeld := hH2
            clear hH2
            have lt_N7_N1 : N7 < v76.heap.size := b7.lt
            replace b7 := b7.alloc (.cells #[.int .i64 k, .int .i64 d] 34)
            replace hv5 := hv5.alloc (.cells #[.int .i64 k, .int .i64 d] 34)
            have b1 : Blk (v76.alloc (.cells #[.int .i64 k, .int .i64 d] 34)) v76.heap.size 34 #[.int .i64 k, .int .i64 d] := Blk.new v76 34 #[.int .i64 k, .int .i64 d]
            generalize (v76.alloc (.cells #[.int .i64 k, .int .i64 d] 34)) = v77 at *
            generalize v76.heap.size = N1 at *
            try simp only [Act.put, List.setIfInBounds_toArray, List.set_cons_zero, List.set_cons_succ, List.getElem_toArray, List.getElem_cons_succ, List.getElem_cons_zero]
            refine wpAnyH_ready (rs := [14]) (by kernel_rfl) (by simp) ?_
            refine AllReadyH.cons rfl (fun K hK => ?_) AllReadyH.nil
            refine step_appN (base := w7.heap.size) rfl (.tmp 53) (.tmp 55) 28 rfl 34 (.agg #[.int .i64 0, .int .i64 0]) 2 16 Try.underlying28 (by kernel_rfl) rfl (by omega) encEv_len one_ev A5 c5 (l.length) (([] : List Ev) ++ l.take (l.length)) HL5.out rfl hv5 _ 1 _ 1 [((k, d) : Ev)] rfl rfl (Ls.blkc b1 rfl) (by unfold maxLen; omega) (by omega) hHeld.1.size (l.length + 1) (by omega) ?_
            intro A6 c6 v78 hv6 hw6
            have hwi := hw6.below (B := w7.heap.size) hHeld.1.size (fun q hq => (hv5.block hq).1)
            replace b7 := b7.wr hw6 (hv5.ne_blk2 b7 (by decide))
            refine hK.out _ _ (HK.out _ (hHeld.1.trans hwi)) (fun hH2 => ?_)
            clear hK K hHeld
            have hHeld := hH2
            clear hH2
            clear hwi
            try simp only [Act.put, List.setIfInBounds_toArray, List.set_cons_zero, List.set_cons_succ, List.getElem_toArray, List.getElem_cons_succ, List.getElem_cons_zero]
            refine wpAnyH_ready (rs := [19]) (by kernel_rfl) (by simp) ?_
            refine AllReadyH.cons rfl (fun K hK => ?_) AllReadyH.nil
            refine step_appN (base := w7.heap.size) rfl (.tmp 56) (.tmp 60) 28 rfl 34 (.agg #[.int .i64 0, .int .i64 0]) 2 16 Try.underlying28 (by kernel_rfl) rfl (by omega) encEv_len one_ev A6 c6 (l.length + 1) ((([] : List Ev) ++ l.take (l.length)) ++ [((k, d) : Ev)]) (by rw [List.length_append, HL5.out]; rfl) rfl hv6 _ _ 0 0 ([] : List Ev) rfl rfl (Ls.none_ (A := _) (B := 0)) (by unfold maxLen; omega) (by omega) hHeld.1.size (l.length + 1) (by omega) ?_
            intro A7 c7 v79 hv7 hw7
            have hwi := hw7.below (B := w7.heap.size) hHeld.1.size (fun q hq => (hv6.block hq).1)
            replace b7 := b7.wr hw7 (hv6.ne_blk2 b7 (by decide))
            refine hK.out _ _ (HK.out _ (hHeld.1.trans hwi)) (fun hH2 => ?_)
            clear hK K hHeld
            have hHeld := hH2
            clear hH2
            clear hwi
            try simp only [Act.put, List.setIfInBounds_toArray, List.set_cons_zero, List.set_cons_succ, List.getElem_toArray, List.getElem_cons_succ, List.getElem_cons_zero]
            refine wpAnyH_take (i := 20) (v := ?v64) rfl (by kernel_rfl) (by kernel_rfl) (by kernel_rfl) (fun _ _ _ h => h) (Or.inl ⟨by rfl, ?hy64⟩) hHeld ?rest64
            case hy64 => (intro W hSw; (try dsimp only at hSw); go_simp) <;> with_reducible rfl
            try simp only [Act.put, List.setIfInBounds_toArray, List.set_cons_zero, List.set_cons_succ, List.getElem_toArray, List.getElem_cons_succ, List.getElem_cons_zero]
            refine wpAnyH_ready (rs := [22]) (by kernel_rfl) (by simp) ?_
            refine AllReadyH.cons rfl (fun K hK => ?_) AllReadyH.nil
            have c70 := b7.cell 0
            have c71 := b7.cell 1
            have c72 := b7.cell 2
            have c73 := b7.cell 3
            have f70 := b7.frozen 0
            have f71 := b7.frozen 1
            have f72 := b7.frozen 2
            have f73 := b7.frozen 3
            go_simp
            refine hK.out _ _ (HK.out _ (Below.setCell (Below.setCell (Below.setCell (Below.setCell hHeld.1 (p := ⟨N7, 0, none⟩) hzN7 (.int .i64 id)) (p := ⟨N7, 1, none⟩) hzN7 (.int .i64 series)) (p := ⟨N7, 2, none⟩) hzN7 (.int .i64 made)) (p := ⟨N7, 3, none⟩) hzN7 (.slice A7 (l.length + 1) c7))) (fun hH2 => ?_)
            clear hK K hHeld
            have hHeld := hH2
            clear hH2
            have hwr : Wr (fun q => q = N7) v79 ((((v79.setCell ⟨N7, 0, none⟩ (.int .i64 id)).setCell ⟨N7, 1, none⟩ (.int .i64 series)).setCell ⟨N7, 2, none⟩ (.int .i64 made)).setCell ⟨N7, 3, none⟩ (.slice A7 (l.length + 1) c7)) := (Wr.setCell (p := ⟨N7, 3, none⟩) (Wr.setCell (p := ⟨N7, 2, none⟩) (Wr.setCell (p := ⟨N7, 1, none⟩) (Wr.setCell (p := ⟨N7, 0, none⟩) (Wr.refl (fun q => q = N7) v79) (.inl rfl) (.int .i64 id)) (.inl rfl) (.int .i64 series)) (.inl rfl) (.int .i64 made)) (.inl rfl) (.slice A7 (l.length + 1) c7))
            have ho8 : Blk ((((v79.setCell ⟨N7, 0, none⟩ (.int .i64 id)).setCell ⟨N7, 1, none⟩ (.int .i64 series)).setCell ⟨N7, 2, none⟩ (.int .i64 made)).setCell ⟨N7, 3, none⟩ (.slice A7 (l.length + 1) c7)) N7 30 (cellsT id series made (.slice A7 (l.length + 1) c7)) := by
              have h := (Blk.set_ (Blk.set_ (Blk.set_ (Blk.set_ b7 0 (.int .i64 id)) 1 (.int .i64 series)) 2 (.int .i64 made)) 3 (.slice A7 (l.length + 1) c7))
              simpa [cellsT] using h
            have hv8 := hv7.wr1 hwr (hv7.ne_blk2 b7 (by decide))
            try simp only [Act.put, List.setIfInBounds_toArray, List.set_cons_zero, List.set_cons_succ, List.getElem_toArray, List.getElem_cons_succ, List.getElem_cons_zero]
            refine wpAnyH_done (by kernel_rfl) ?_ _
            refine NoPanic.normal ?_
            have hB8 := hB7.trans (hHeld.1.mono (show w.heap.size ≤ w7.heap.size by omega))
            rw [HE.out] at hv8
            exact HT.out _ _ _ _ _ _ _ _ _ _ _ _ _ _ _ _ _ _ _ _ _ _ _ _ _ _ _ _ _ _ _ _ _ _ _ _ _ _ _ _ _ _ _ _ _ _ _ _ _ _ _ _ _ _ _ _ _ _ _ _ _ _ _ _ _ _ _ _ _ ho8 (hv8.mono (by omega)) (hy7.below hHeld.1 (by omega)) hB8 (by omega)
          · go_simp
            refine hK.out _ _ (HK.out _ (Below.alloc hHeld.1 hHeld.1.size _)) (fun hH2 => ?_)
            have hzN1 : w7.heap.size ≤ v75.heap.size := hHeld.1.size
            clear hK K hHeld
            have hHeld := hH2
            clear hH2
            have lt_N7_N1 : N7 < v75.heap.size := b7.lt
            replace b7 := b7.alloc (.cells #[.int .i64 k, .int .i64 d] 34)
            have lt_N0_N1 : N0 < v75.heap.size := b0.lt
            replace b0 := b0.alloc (.cells #[.int .i64 k, .int .i64 d] 34)
            have b1 : Blk (v75.alloc (.cells #[.int .i64 k, .int .i64 d] 34)) v75.heap.size 34 #[.int .i64 k, .int .i64 d] := Blk.new v75 34 #[.int .i64 k, .int .i64 d]
            generalize (v75.alloc (.cells #[.int .i64 k, .int .i64 d] 34)) = v81 at *
            generalize v75.heap.size = N1 at *
            try simp only [Act.put, List.setIfInBounds_toArray, List.set_cons_zero, List.set_cons_succ, List.getElem_toArray, List.getElem_cons_succ, List.getElem_cons_zero]
            refine wpAnyH_ready (rs := [11]) (by kernel_rfl) (by simp) ?_
            refine AllReadyH.cons rfl (fun K hK => ?_) AllReadyH.nil
            refine step_appN (base := w7.heap.size) rfl (.tmp 48) (.tmp 52) 28 rfl 34 (.agg #[.int .i64 0, .int .i64 0]) 2 16 Try.underlying28 (by kernel_rfl) rfl (by omega) encEv_len one_ev _ 0 0 ([] : List Ev) rfl rfl (Vec.empty_at (base := w7.heap.size) b0 hzN0) A c _ (l.length) (l.take (l.length)) hlk rfl (HLt.out _ hHeld.1) (by unfold maxLen; omega) (by omega) hHeld.1.size (l.length) (by omega) ?_
            intro A5 c5 v82 hv5 hw5
            have hwi := hw5.below (B := w7.heap.size) hHeld.1.size (fun q hq => by obtain ⟨_, hx⟩ := hq; cases hx; exact hzN0)
            replace b7 := b7.wr hw5 (fun hq => by obtain ⟨_, hx⟩ := hq; cases hx; omega)
            replace b1 := b1.wr hw5 (fun hq => by obtain ⟨_, hx⟩ := hq; cases hx; omega)
            refine hK.out _ _ (HK.out _ (hHeld.1.trans hwi)) (fun hH2 => ?_)
            clear hK K hHeld
            have hHeld := hH2
            clear hH2
            clear hwi
            try simp only [Act.put, List.setIfInBounds_toArray, List.set_cons_zero, List.set_cons_succ, List.getElem_toArray, List.getElem_cons_succ, List.getElem_cons_zero]
            refine wpAnyH_ready (rs := [14]) (by kernel_rfl) (by simp) ?_
            refine AllReadyH.cons rfl (fun K hK => ?_) AllReadyH.nil
            refine step_appN (base := w7.heap.size) rfl (.tmp 53) (.tmp 55) 28 rfl 34 (.agg #[.int .i64 0, .int .i64 0]) 2 16 Try.underlying28 (by kernel_rfl) rfl (by omega) encEv_len one_ev A5 c5 (l.length) (([] : List Ev) ++ l.take (l.length)) HL5.out rfl hv5 _ 1 _ 1 [((k, d) : Ev)] rfl rfl (Ls.blkc b1 rfl) (by unfold maxLen; omega) (by omega) hHeld.1.size (l.length + 1) (by omega) ?_
            intro A6 c6 v83 hv6 hw6
            have hwi := hw6.below (B := w7.heap.size) hHeld.1.size (fun q hq => (hv5.block hq).1)
            replace b7 := b7.wr hw6 (hv5.ne_blk2 b7 (by decide))
            refine hK.out _ _ (HK.out _ (hHeld.1.trans hwi)) (fun hH2 => ?_)
            clear hK K hHeld
            have hHeld := hH2
            clear hH2
            clear hwi
            try simp only [Act.put, List.setIfInBounds_toArray, List.set_cons_zero, List.set_cons_succ, List.getElem_toArray, List.getElem_cons_succ, List.getElem_cons_zero]
            refine wpAnyH_ready (rs := [19]) (by kernel_rfl) (by simp) ?_
            refine AllReadyH.cons rfl (fun K hK => ?_) AllReadyH.nil
            refine step_appN (base := w7.heap.size) rfl (.tmp 56) (.tmp 60) 28 rfl 34 (.agg #[.int .i64 0, .int .i64 0]) 2 16 Try.underlying28 (by kernel_rfl) rfl (by omega) encEv_len one_ev A6 c6 (l.length + 1) ((([] : List Ev) ++ l.take (l.length)) ++ [((k, d) : Ev)]) (by rw [List.length_append, HL5.out]; rfl) rfl hv6 _ _ 0 0 ([] : List Ev) rfl rfl (Ls.none_ (A := _) (B := 0)) (by unfold maxLen; omega) (by omega) hHeld.1.size (l.length + 1) (by omega) ?_
            intro A7 c7 v84 hv7 hw7
            have hwi := hw7.below (B := w7.heap.size) hHeld.1.size (fun q hq => (hv6.block hq).1)
            replace b7 := b7.wr hw7 (hv6.ne_blk2 b7 (by decide))
            refine hK.out _ _ (HK.out _ (hHeld.1.trans hwi)) (fun hH2 => ?_)
            clear hK K hHeld
            have hHeld := hH2
            clear hH2
            clear hwi
            try simp only [Act.put, List.setIfInBounds_toArray, List.set_cons_zero, List.set_cons_succ, List.getElem_toArray, List.getElem_cons_succ, List.getElem_cons_zero]
            refine wpAnyH_take (i := 20) (v := ?v65) rfl (by kernel_rfl) (by kernel_rfl) (by kernel_rfl) (fun _ _ _ h => h) (Or.inl ⟨by rfl, ?hy65⟩) hHeld ?rest65
            case hy65 => (intro W hSw; (try dsimp only at hSw); go_simp) <;> with_reducible rfl
            try simp only [Act.put, List.setIfInBounds_toArray, List.set_cons_zero, List.set_cons_succ, List.getElem_toArray, List.getElem_cons_succ, List.getElem_cons_zero]
            refine wpAnyH_ready (rs := [22]) (by kernel_rfl) (by simp) ?_
            refine AllReadyH.cons rfl (fun K hK => ?_) AllReadyH.nil
            have c70 := b7.cell 0
            have c71 := b7.cell 1
            have c72 := b7.cell 2
            have c73 := b7.cell 3
            have f70 := b7.frozen 0
            have f71 := b7.frozen 1
            have f72 := b7.frozen 2
            have f73 := b7.frozen 3
            go_simp
            refine hK.out _ _ (HK.out _ (Below.setCell (Below.setCell (Below.setCell (Below.setCell hHeld.1 (p := ⟨N7, 0, none⟩) hzN7 (.int .i64 id)) (p := ⟨N7, 1, none⟩) hzN7 (.int .i64 series)) (p := ⟨N7, 2, none⟩) hzN7 (.int .i64 made)) (p := ⟨N7, 3, none⟩) hzN7 (.slice A7 (l.length + 1) c7))) (fun hH2 => ?_)
            clear hK K hHeld
            have hHeld := hH2
            clear hH2
            have hwr : Wr (fun q => q = N7) v84 ((((v84.setCell ⟨N7, 0, none⟩ (.int .i64 id)).setCell ⟨N7, 1, none⟩ (.int .i64 series)).setCell ⟨N7, 2, none⟩ (.int .i64 made)).setCell ⟨N7, 3, none⟩ (.slice A7 (l.length + 1) c7)) := (Wr.setCell (p := ⟨N7, 3, none⟩) (Wr.setCell (p := ⟨N7, 2, none⟩) (Wr.setCell (p := ⟨N7, 1, none⟩) (Wr.setCell (p := ⟨N7, 0, none⟩) (Wr.refl (fun q => q = N7) v84) (.inl rfl) (.int .i64 id)) (.inl rfl) (.int .i64 series)) (.inl rfl) (.int .i64 made)) (.inl rfl) (.slice A7 (l.length + 1) c7))
            have ho8 : Blk ((((v84.setCell ⟨N7, 0, none⟩ (.int .i64 id)).setCell ⟨N7, 1, none⟩ (.int .i64 series)).setCell ⟨N7, 2, none⟩ (.int .i64 made)).setCell ⟨N7, 3, none⟩ (.slice A7 (l.length + 1) c7)) N7 30 (cellsT id series made (.slice A7 (l.length + 1) c7)) := by
              have h := (Blk.set_ (Blk.set_ (Blk.set_ (Blk.set_ b7 0 (.int .i64 id)) 1 (.int .i64 series)) 2 (.int .i64 made)) 3 (.slice A7 (l.length + 1) c7))
              simpa [cellsT] using h
            have hv8 := hv7.wr1 hwr (hv7.ne_blk2 b7 (by decide))
            try simp only [Act.put, List.setIfInBounds_toArray, List.set_cons_zero, List.set_cons_succ, List.getElem_toArray, List.getElem_cons_succ, List.getElem_cons_zero]
            refine wpAnyH_done (by kernel_rfl) ?_ _
            refine NoPanic.normal ?_
            have hB8 := hB7.trans (hHeld.1.mono (show w.heap.size ≤ w7.heap.size by omega))
            rw [HE.out] at hv8
            exact HT.out _ _ _ _ _ _ _ _ _ _ _ _ _ _ _ _ _ _ _ _ _ _ _ _ _ _ _ _ _ _ _ _ _ _ _ _ _ _ _ _ _ _ _ _ _ _ _ _ _ _ _ _ _ _ _ _ _ _ _ _ _ _ _ _ _ _ _ _ _ ho8 (hv8.mono (by omega)) (hy7.below hHeld.1 (by omega)) hB8 (by omega)
        · go_simp
          refine hK.out _ _ (HK.out _ (Below.alloc hHeld.1 hHeld.1.size _)) (fun hH2 => ?_)
          have hzN1 : w7.heap.size ≤ v74.heap.size := hHeld.1.size
          clear hK K hHeld
          have hHeld := hH2
          clear hH2
          have lt_N7_N1 : N7 < v74.heap.size := b7.lt
          replace b7 := b7.alloc (.cells #[.int .i64 k, .int .i64 d] 34)
          have b1 : Blk (v74.alloc (.cells #[.int .i64 k, .int .i64 d] 34)) v74.heap.size 34 #[.int .i64 k, .int .i64 d] := Blk.new v74 34 #[.int .i64 k, .int .i64 d]
          generalize (v74.alloc (.cells #[.int .i64 k, .int .i64 d] 34)) = v86 at *
          generalize v74.heap.size = N1 at *
          try simp only [Act.put, List.setIfInBounds_toArray, List.set_cons_zero, List.set_cons_succ, List.getElem_toArray, List.getElem_cons_succ, List.getElem_cons_zero]
          refine wpAnyH_ready (rs := [6]) (by kernel_rfl) (by simp) ?_
          refine AllReadyH.cons rfl (fun K hK => ?_) AllReadyH.nil
          go_simp
          refine hK.out _ _ (HK.out _ (Below.alloc hHeld.1 hHeld.1.size _)) (fun hH2 => ?_)
          have hzN0 : w7.heap.size ≤ v86.heap.size := hHeld.1.size
          clear hK K hHeld
          have hHeld := hH2
          clear hH2
          have lt_N7_N0 : N7 < v86.heap.size := b7.lt
          replace b7 := b7.alloc (.cells #[] 34)
          have lt_N1_N0 : N1 < v86.heap.size := b1.lt
          replace b1 := b1.alloc (.cells #[] 34)
          have b0 : Blk (v86.alloc (.cells #[] 34)) v86.heap.size 34 #[] := Blk.new v86 34 #[]
          generalize (v86.alloc (.cells #[] 34)) = v87 at *
          generalize v86.heap.size = N0 at *
          try simp only [Act.put, List.setIfInBounds_toArray, List.set_cons_zero, List.set_cons_succ, List.getElem_toArray, List.getElem_cons_succ, List.getElem_cons_zero]
          refine wpAnyH_ready (rs := [11]) (by kernel_rfl) (by simp) ?_
          refine AllReadyH.cons rfl (fun K hK => ?_) AllReadyH.nil
          refine step_appN (base := w7.heap.size) rfl (.tmp 48) (.tmp 52) 28 rfl 34 (.agg #[.int .i64 0, .int .i64 0]) 2 16 Try.underlying28 (by kernel_rfl) rfl (by omega) encEv_len one_ev _ 0 0 ([] : List Ev) rfl rfl (Vec.empty_at (base := w7.heap.size) b0 hzN0) A c _ (l.length) (l.take (l.length)) hlk rfl (HLt.out _ hHeld.1) (by unfold maxLen; omega) (by omega) hHeld.1.size (l.length) (by omega) ?_
          intro A5 c5 v88 hv5 hw5
          have hwi := hw5.below (B := w7.heap.size) hHeld.1.size (fun q hq => by obtain ⟨_, hx⟩ := hq; cases hx; exact hzN0)
          replace b7 := b7.wr hw5 (fun hq => by obtain ⟨_, hx⟩ := hq; cases hx; omega)
          replace b1 := b1.wr hw5 (fun hq => by obtain ⟨_, hx⟩ := hq; cases hx; omega)
          refine hK.out _ _ (HK.out _ (hHeld.1.trans hwi)) (fun hH2 => ?_)
          clear hK K hHeld
          have hHeld := hH2
          clear hH2
          clear hwi
          try simp only [Act.put, List.setIfInBounds_toArray, List.set_cons_zero, List.set_cons_succ, List.getElem_toArray, List.getElem_cons_succ, List.getElem_cons_zero]
          refine wpAnyH_ready (rs := [14]) (by kernel_rfl) (by simp) ?_
          refine AllReadyH.cons rfl (fun K hK => ?_) AllReadyH.nil
          refine step_appN (base := w7.heap.size) rfl (.tmp 53) (.tmp 55) 28 rfl 34 (.agg #[.int .i64 0, .int .i64 0]) 2 16 Try.underlying28 (by kernel_rfl) rfl (by omega) encEv_len one_ev A5 c5 (l.length) (([] : List Ev) ++ l.take (l.length)) HL5.out rfl hv5 _ 1 _ 1 [((k, d) : Ev)] rfl rfl (Ls.blkc b1 rfl) (by unfold maxLen; omega) (by omega) hHeld.1.size (l.length + 1) (by omega) ?_
          intro A6 c6 v89 hv6 hw6
          have hwi := hw6.below (B := w7.heap.size) hHeld.1.size (fun q hq => (hv5.block hq).1)
          replace b7 := b7.wr hw6 (hv5.ne_blk2 b7 (by decide))
          refine hK.out _ _ (HK.out _ (hHeld.1.trans hwi)) (fun hH2 => ?_)
          clear hK K hHeld
          have hHeld := hH2
          clear hH2
          clear hwi
          try simp only [Act.put, List.setIfInBounds_toArray, List.set_cons_zero, List.set_cons_succ, List.getElem_toArray, List.getElem_cons_succ, List.getElem_cons_zero]
          refine wpAnyH_ready (rs := [19]) (by kernel_rfl) (by simp) ?_
          refine AllReadyH.cons rfl (fun K hK => ?_) AllReadyH.nil
          refine step_appN (base := w7.heap.size) rfl (.tmp 56) (.tmp 60) 28 rfl 34 (.agg #[.int .i64 0, .int .i64 0]) 2 16 Try.underlying28 (by kernel_rfl) rfl (by omega) encEv_len one_ev A6 c6 (l.length + 1) ((([] : List Ev) ++ l.take (l.length)) ++ [((k, d) : Ev)]) (by rw [List.length_append, HL5.out]; rfl) rfl hv6 _ _ 0 0 ([] : List Ev) rfl rfl (Ls.none_ (A := _) (B := 0)) (by unfold maxLen; omega) (by omega) hHeld.1.size (l.length + 1) (by omega) ?_
          intro A7 c7 v90 hv7 hw7
          have hwi := hw7.below (B := w7.heap.size) hHeld.1.size (fun q hq => (hv6.block hq).1)
          replace b7 := b7.wr hw7 (hv6.ne_blk2 b7 (by decide))
          refine hK.out _ _ (HK.out _ (hHeld.1.trans hwi)) (fun hH2 => ?_)
          clear hK K hHeld
          have hHeld := hH2
          clear hH2
          clear hwi
          try simp only [Act.put, List.setIfInBounds_toArray, List.set_cons_zero, List.set_cons_succ, List.getElem_toArray, List.getElem_cons_succ, List.getElem_cons_zero]
          refine wpAnyH_take (i := 20) (v := ?v66) rfl (by kernel_rfl) (by kernel_rfl) (by kernel_rfl) (fun _ _ _ h => h) (Or.inl ⟨by rfl, ?hy66⟩) hHeld ?rest66
          case hy66 => (intro W hSw; (try dsimp only at hSw); go_simp) <;> with_reducible rfl
          try simp only [Act.put, List.setIfInBounds_toArray, List.set_cons_zero, List.set_cons_succ, List.getElem_toArray, List.getElem_cons_succ, List.getElem_cons_zero]
          refine wpAnyH_ready (rs := [22]) (by kernel_rfl) (by simp) ?_
          refine AllReadyH.cons rfl (fun K hK => ?_) AllReadyH.nil
          have c70 := b7.cell 0
          have c71 := b7.cell 1
          have c72 := b7.cell 2
          have c73 := b7.cell 3
          have f70 := b7.frozen 0
          have f71 := b7.frozen 1
          have f72 := b7.frozen 2
          have f73 := b7.frozen 3
          go_simp
          refine hK.out _ _ (HK.out _ (Below.setCell (Below.setCell (Below.setCell (Below.setCell hHeld.1 (p := ⟨N7, 0, none⟩) hzN7 (.int .i64 id)) (p := ⟨N7, 1, none⟩) hzN7 (.int .i64 series)) (p := ⟨N7, 2, none⟩) hzN7 (.int .i64 made)) (p := ⟨N7, 3, none⟩) hzN7 (.slice A7 (l.length + 1) c7))) (fun hH2 => ?_)
          clear hK K hHeld
          have hHeld := hH2
          clear hH2
          have hwr : Wr (fun q => q = N7) v90 ((((v90.setCell ⟨N7, 0, none⟩ (.int .i64 id)).setCell ⟨N7, 1, none⟩ (.int .i64 series)).setCell ⟨N7, 2, none⟩ (.int .i64 made)).setCell ⟨N7, 3, none⟩ (.slice A7 (l.length + 1) c7)) := (Wr.setCell (p := ⟨N7, 3, none⟩) (Wr.setCell (p := ⟨N7, 2, none⟩) (Wr.setCell (p := ⟨N7, 1, none⟩) (Wr.setCell (p := ⟨N7, 0, none⟩) (Wr.refl (fun q => q = N7) v90) (.inl rfl) (.int .i64 id)) (.inl rfl) (.int .i64 series)) (.inl rfl) (.int .i64 made)) (.inl rfl) (.slice A7 (l.length + 1) c7))
          have ho8 : Blk ((((v90.setCell ⟨N7, 0, none⟩ (.int .i64 id)).setCell ⟨N7, 1, none⟩ (.int .i64 series)).setCell ⟨N7, 2, none⟩ (.int .i64 made)).setCell ⟨N7, 3, none⟩ (.slice A7 (l.length + 1) c7)) N7 30 (cellsT id series made (.slice A7 (l.length + 1) c7)) := by
            have h := (Blk.set_ (Blk.set_ (Blk.set_ (Blk.set_ b7 0 (.int .i64 id)) 1 (.int .i64 series)) 2 (.int .i64 made)) 3 (.slice A7 (l.length + 1) c7))
            simpa [cellsT] using h
          have hv8 := hv7.wr1 hwr (hv7.ne_blk2 b7 (by decide))
          try simp only [Act.put, List.setIfInBounds_toArray, List.set_cons_zero, List.set_cons_succ, List.getElem_toArray, List.getElem_cons_succ, List.getElem_cons_zero]
          refine wpAnyH_done (by kernel_rfl) ?_ _
          refine NoPanic.normal ?_
          have hB8 := hB7.trans (hHeld.1.mono (show w.heap.size ≤ w7.heap.size by omega))
          rw [HE.out] at hv8
          exact HT.out _ _ _ _ _ _ _ _ _ _ _ _ _ _ _ _ _ _ _ _ _ _ _ _ _ _ _ _ _ _ _ _ _ _ _ _ _ _ _ _ _ _ _ _ _ _ _ _ _ _ _ _ _ _ _ _ _ _ _ _ _ _ _ _ _ _ _ _ _ ho8 (hv8.mono (by omega)) (hy7.below hHeld.1 (by omega)) hB8 (by omega)

set_option maxHeartbeats 1000000 in
theorem c_spec_AddEvent (id series made : Int) (A : Option Addr) (c : Nat) (l : List Ev) (k d : Int) (w : World) (hl : Ls w w.heap.size encEv 2 A l) (hm : l.length ≤ 1048576) (hcap : l.length ≤ c) :
    Calls Try.prog 6 #[.agg #[.int .i64 id, .int .i64 series, .int .i64 made, .slice A l.length c], .agg #[.int .i64 k, .int .i64 d]] w (RetRB w (keepI (addB id series made l (k, d)) id) (keepI (addB id series made l (k, d)) series) (keepI (addB id series made l (k, d)) made) (addL id series made l (k, d)) (addB id series made l (k, d))) := by
  have hB : Below w.heap.size w (((w.alloc (.cells (cellsT id series made (.slice A l.length c)) 30)).alloc (.cells #[.int .i64 k, .int .i64 d] 34)).alloc (.cells (cellsT 0 0 0 (.slice none 0 0)) 30)) := blw_alloc (blw_alloc (blw_alloc (Below.refl w.heap.size w) _) _) _
  have hx0 : Blk (((w.alloc (.cells (cellsT id series made (.slice A l.length c)) 30)).alloc (.cells #[.int .i64 k, .int .i64 d] 34)).alloc (.cells (cellsT 0 0 0 (.slice none 0 0)) 30)) w.heap.size 30 (cellsT id series made (.slice A l.length c)) := ((Blk.new w 30 (cellsT id series made (.slice A l.length c))).alloc _).alloc _
  have he0 : Blk (((w.alloc (.cells (cellsT id series made (.slice A l.length c)) 30)).alloc (.cells #[.int .i64 k, .int .i64 d] 34)).alloc (.cells (cellsT 0 0 0 (.slice none 0 0)) 30)) (w.heap.size + 1) 34 #[.int .i64 k, .int .i64 d] := by
    have h := (Blk.new (w.alloc (.cells (cellsT id series made (.slice A l.length c)) 30)) 34 #[.int .i64 k, .int .i64 d]).alloc (.cells (cellsT 0 0 0 (.slice none 0 0)) 30)
    simpa using h
  have hy0 : Blk (((w.alloc (.cells (cellsT id series made (.slice A l.length c)) 30)).alloc (.cells #[.int .i64 k, .int .i64 d] 34)).alloc (.cells (cellsT 0 0 0 (.slice none 0 0)) 30)) (w.heap.size + 2) 30 (cellsT 0 0 0 (.slice none 0 0)) := by
    have h := Blk.new ((w.alloc (.cells (cellsT id series made (.slice A l.length c)) 30)).alloc (.cells #[.int .i64 k, .int .i64 d] 34)) 30 (cellsT 0 0 0 (.slice none 0 0))
    simpa using h
  have hl0 : Ls (((w.alloc (.cells (cellsT id series made (.slice A l.length c)) 30)).alloc (.cells #[.int .i64 k, .int .i64 d] 34)).alloc (.cells (cellsT 0 0 0 (.slice none 0 0)) 30)) (((w.alloc (.cells (cellsT id series made (.slice A l.length c)) 30)).alloc (.cells #[.int .i64 k, .int .i64 d] 34)).alloc (.cells (cellsT 0 0 0 (.slice none 0 0)) 30)).heap.size encEv 2 A l := (hl.below hB).more hB.size
  have hm' : l.length ≤ 9223372036854775807 := by omega
  cases h1 : recB id series made l
  · have Hv := Lib.hid (addB_no (e := (k, d)) (.inl h1))
    go_enter Try.func6, Try.ntmps6
    go_wp2_with fail
    change Calls Try.prog 22 _ (((w.alloc (.cells (cellsT id series made (.slice A l.length c)) 30)).alloc (.cells #[.int .i64 k, .int .i64 d] 34)).alloc (.cells (cellsT 0 0 0 (.slice none 0 0)) 30)) _
    generalize (((w.alloc (.cells (cellsT id series made (.slice A l.length c)) 30)).alloc (.cells #[.int .i64 k, .int .i64 d] 34)).alloc (.cells (cellsT 0 0 0 (.slice none 0 0)) 30)) = W0 at *
    refine (l2Record_any _ _ _ _ _ l _ hl0 hm').mono ?_
    rw [h1]
    rintro e w1 ⟨rfl, hq1⟩
    have hB1 := blw hB hq1
    have hy1 := hy0.below hq1 hy0.lt
    have hl1 := (hl0.below hq1).more hq1.size
    obtain ⟨y0, y1, y2, y3, g0, g1, g2, g3, yl⟩ := hy1.cellsT
    go_wp2_with fail
    refine bodyPost_ret (v := .tuple #[.agg #[.int .i64 0, .int .i64 0, .int .i64 0, .slice none 0 0], .bool false]) (by simp [results, Try.results6, go_sem, yl, y0, y1, y2, y3]) rfl ⟨none, 0, ?_, ?_, ?_⟩
    · rw [Hv.out.1, Hv.out.2]; rfl
    · rw [Hv.out.1]; exact Vec.nil
    · exact ((((hB1.setCell (Nat.le_add_right _ 2) _).setCell (Nat.le_add_right _ 2) _).setCell (Nat.le_add_right _ 2) _).setCell (Nat.le_add_right _ 2) _)
  · cases h2 : evB k d
    · have Hv := Lib.hid (addB_no (id := id) (series := series) (made := made) (l := l) (e := (k, d)) (.inr (.inl h2)))
      go_enter Try.func6, Try.ntmps6
      go_wp2_with fail
      change Calls Try.prog 22 _ (((w.alloc (.cells (cellsT id series made (.slice A l.length c)) 30)).alloc (.cells #[.int .i64 k, .int .i64 d] 34)).alloc (.cells (cellsT 0 0 0 (.slice none 0 0)) 30)) _
      generalize (((w.alloc (.cells (cellsT id series made (.slice A l.length c)) 30)).alloc (.cells #[.int .i64 k, .int .i64 d] 34)).alloc (.cells (cellsT 0 0 0 (.slice none 0 0)) 30)) = W0 at *
      refine (l2Record_any _ _ _ _ _ l _ hl0 hm').mono ?_
      rw [h1]
      rintro e w1 ⟨rfl, hq1⟩
      have hB1 := blw hB hq1
      have he1 := he0.below hq1 he0.lt
      have hy1 := hy0.below hq1 hy0.lt
      have hl1 := (hl0.below hq1).more hq1.size
      have e0 := he1.cell 0
      have e1 := he1.cell 1
      have el := he1.lt
      go_wp2_with fail
      refine (l2Event_any _ _ _).mono ?_
      rw [h2]
      rintro e w2 ⟨rfl, hq2⟩
      have hB2 := blw hB1 hq2
      have hy2 := hy1.below hq2 hy1.lt
      have hl2 := (hl1.below hq2).more hq2.size
      obtain ⟨y0, y1, y2, y3, g0, g1, g2, g3, yl⟩ := hy2.cellsT
      go_wp2_with fail
      refine bodyPost_ret (v := .tuple #[.agg #[.int .i64 0, .int .i64 0, .int .i64 0, .slice none 0 0], .bool false]) (by simp [results, Try.results6, go_sem, yl, y0, y1, y2, y3]) rfl ⟨none, 0, ?_, ?_, ?_⟩
      · rw [Hv.out.1, Hv.out.2]; rfl
      · rw [Hv.out.1]; exact Vec.nil
      · exact ((((hB2.setCell (Nat.le_add_right _ 2) _).setCell (Nat.le_add_right _ 2) _).setCell (Nat.le_add_right _ 2) _).setCell (Nat.le_add_right _ 2) _)
    · cases hf : hasE l k
      · rcases Nat.lt_or_eq_of_le (plcE_le l k) with hp | hp
        · exact c_spec_AddEvent_A id series made A c l k d w hl hm hcap h1 h2 hf hp
        · exact c_spec_AddEvent_B id series made A c l k d w hl hm hcap h1 h2 hf hp
      · have hdv := dayV_neg k h1
        have hd : decide (dayV made l k ≥ 0) = true := by
          have h : decide (dayV made l k < 0) = false := by rw [hdv]; simp [okD, hf]
          simp at h ⊢; omega
        have Hv := Lib.hid (addB_no (id := id) (series := series) (made := made) (l := l) (e := (k, d)) (.inr (.inr (insE_dup h1 hf))))
        clear hdv hf
        go_enter Try.func6, Try.ntmps6
        go_wp2_with fail
        change Calls Try.prog 22 _ (((w.alloc (.cells (cellsT id series made (.slice A l.length c)) 30)).alloc (.cells #[.int .i64 k, .int .i64 d] 34)).alloc (.cells (cellsT 0 0 0 (.slice none 0 0)) 30)) _
        generalize (((w.alloc (.cells (cellsT id series made (.slice A l.length c)) 30)).alloc (.cells #[.int .i64 k, .int .i64 d] 34)).alloc (.cells (cellsT 0 0 0 (.slice none 0 0)) 30)) = W0 at *
        refine (l2Record_any _ _ _ _ _ l _ hl0 hm').mono ?_
        rw [h1]
        rintro e w1 ⟨rfl, hq1⟩
        have hB1 := blw hB hq1
        have hx1 := hx0.below hq1 hx0.lt
        have he1 := he0.below hq1 he0.lt
        have hy1 := hy0.below hq1 hy0.lt
        have hl1 := (hl0.below hq1).more hq1.size
        have e0 := he1.cell 0
        have e1 := he1.cell 1
        have el := he1.lt
        go_wp2_with fail
        refine (l2Event_any _ _ _).mono ?_
        rw [h2]
        rintro e w2 ⟨rfl, hq2⟩
        clear h1 h2 e0 e1 el
        have hB2 := blw hB1 hq2
        have hx2 := hx1.below hq2 hx1.lt
        have he2 := he1.below hq2 he1.lt
        have hy2 := hy1.below hq2 hy1.lt
        have hl2 := (hl1.below hq2).more hq2.size
        obtain ⟨x0, x1, x2, x3, f0, f1, f2, f3, xl⟩ := hx2.cellsT
        have e0 := he2.cell 0
        have e1 := he2.cell 1
        have el := he2.lt
        clear hx0 he0 hy0 hl0 hx1 he1 hy1 hl1
        go_wp2_with fail
        refine (l2DayOf_any _ _ _ _ _ l _ _ hl2 hm').mono ?_
        generalize dayV made l k = dv at *
        rintro e w3 ⟨rfl, hq3⟩
        have hB3 := blw hB2 hq3
        have hy3 := hy2.below hq3 hy2.lt
        have hl3 := (hl2.below hq3).more hq3.size
        obtain ⟨y0, y1, y2, y3, g0, g1, g2, g3, yl⟩ := hy3.cellsT
        go_wp2_with fail
        refine bodyPost_ret (v := .tuple #[.agg #[.int .i64 0, .int .i64 0, .int .i64 0, .slice none 0 0], .bool false]) (by simp [results, Try.results6, go_sem, yl, y0, y1, y2, y3]) rfl ⟨none, 0, ?_, ?_, ?_⟩
        · rw [Hv.out.1, Hv.out.2]; rfl
        · rw [Hv.out.1]; exact Vec.nil
        · exact ((((hB3.setCell (Nat.le_add_right _ 2) _).setCell (Nat.le_add_right _ 2) _).setCell (Nat.le_add_right _ 2) _).setCell (Nat.le_add_right _ 2) _)

end Go.Proofs.Ytnohonedfeacdaa
