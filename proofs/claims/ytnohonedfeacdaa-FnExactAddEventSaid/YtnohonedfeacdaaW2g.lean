/- Contracts: AddEvent. -/
import Derived.Test.YtnohonedfeacdaaW2e
import Derived.Test.YtnohonedfeacdaaSi
import Derived.Test.YtnohonedfeacdaaSg
import Derived.Deep.RegionHeld3
namespace Go.Proofs.Ytnohonedfeacdaa
set_option linter.unusedVariables false
set_option linter.unusedSimpArgs false
open Go.RowKit
attribute [local go_sem] Aft.cell

/-- the place of the first event whose kind is not less -/
def plcE (l : List Ev) (k : Int) : Nat := l.findIdx fun x => !decide (x.1 < k)
theorem plcE_le (l : List Ev) (k : Int) : plcE l k ≤ l.length := List.findIdx_le_length
theorem plcE_at {l : List Ev} {k : Int} (i : Nat) (hi : i ≤ l.length) (h1 : ∀ j (hj : j < l.length), j < i → l[j].1 < k) (h2 : ∀ (h : i < l.length), ¬ l[i].1 < k) : plcE l k = i := by
  unfold plcE
  by_cases h : i < l.length
  · rw [List.findIdx_eq h]
    exact ⟨by simp only [Bool.not_eq_true', decide_eq_false_iff_not]; exact h2 h, fun j hj => by simp only [Bool.not_eq_false', decide_eq_true_eq]; exact h1 j (by omega) hj⟩
  · obtain rfl : i = l.length := by omega
    rw [List.findIdx_eq_length]
    intro x hx
    obtain ⟨j, hj, rfl⟩ := List.mem_iff_getElem.1 hx
    simp only [Bool.not_eq_false', decide_eq_true_eq]
    exact h1 j hj hj
def insE (l : List Ev) (e : Ev) : List Ev := l.take (plcE l e.1) ++ e :: l.drop (plcE l e.1)
theorem insE_len (l : List Ev) (e : Ev) : (insE l e).length = l.length + 1 := by
  have := plcE_le l e.1
  unfold insE
  simp; omega
def addB (id series made : Int) (l : List Ev) (e : Ev) : Bool := recB id series made l && evB e.1 e.2 && recB id series made (insE l e)
def addL (id series made : Int) (l : List Ev) (e : Ev) : List Ev := if addB id series made l e then insE l e else []
theorem addL_le (id series made : Int) (l : List Ev) (e : Ev) : (addL id series made l e).length ≤ 6 := by
  unfold addL
  split
  · next h =>
    simp only [addB, Bool.and_eq_true] at h
    exact (evB_of_rec h.2).2.2.1
  · simp
theorem addB_no {id series made : Int} {l : List Ev} {e : Ev} (h : recB id series made l = false ∨ evB e.1 e.2 = false ∨ recB id series made (insE l e) = false) : addL id series made l e = [] ∧ addB id series made l e = false := by
  have h1 : addB id series made l e = false := by
    unfold addB
    rcases h with h | h | h <;> simp [h]
  exact ⟨by simp [addL, h1], h1⟩
theorem addB_yes {id series made : Int} {l : List Ev} {e : Ev} (h1 : recB id series made l = true) (h2 : evB e.1 e.2 = true) (h3 : recB id series made (insE l e) = true) : addL id series made l e = insE l e ∧ addB id series made l e = true := by
  have h : addB id series made l e = true := by simp [addB, h1, h2, h3]
  exact ⟨by simp [addL, h], h⟩
/-- a kind that is there stands twice side by side: no record -/
theorem insE_dup {id series made : Int} {l : List Ev} {e : Ev} (h : recB id series made l = true) (hf : hasE l e.1 = true) : recB id series made (insE l e) = false := by
  cases hr : recB id series made (insE l e)
  · rfl
  · exfalso
    have hi := hasE_lt hf
    have hh := idxE_hit hi
    have hp : plcE l e.1 = idxE l e.1 := plcE_at _ (by omega) (fun j hj hji => by
      obtain ⟨q, hq⟩ : ∃ q, idxE l e.1 = j + q + 1 := ⟨idxE l e.1 - j - 1, by omega⟩
      have h1 := evs_lt h j q (by omega)
      have h2 : l[idxE l e.1] = l[j + q + 1]'(by omega) := by congr 1
      rw [h2] at hh
      simp at hh
      omega) (fun _ => by simp at hh; omega)
    have hl := insE_len l e
    have h1 := evs_next hr (idxE l e.1) (by omega)
    have e1 : (insE l e)[idxE l e.1]'(by omega) = e := by
      simp only [insE, hp]
      rw [List.getElem_append_right (by simp; omega)]
      simp [Nat.min_eq_left (Nat.le_of_lt hi)]
    have e2 : (insE l e)[idxE l e.1 + 1]'(by omega) = l[idxE l e.1] := by
      simp only [insE, hp]
      rw [List.getElem_append_right (by simp; omega)]
      simp [Nat.min_eq_left (Nat.le_of_lt hi), Nat.add_sub_cancel_left]
    rw [e1, e2] at h1
    simp at hh
    omega
theorem IsRecord_n (id series made : Int) (A : Option Addr) (c n : Nat) (l : List Ev) (w : World) (hn : l.length = n) (hl : Ls w w.heap.size encEv 2 A l) (hm : l.length ≤ 9223372036854775807) :
    Calls Try.prog 26 #[.agg #[.int .i64 id, .int .i64 series, .int .i64 made, .slice A n c]] w fun e w' => e = .returned (.bool (recB id series made l)) ∧ Below w.heap.size w w' := by
  subst hn
  exact IsRecord_any id series made A c l w hl hm
theorem l2Record_n (id series made : Int) (A : Option Addr) (c n : Nat) (l : List Ev) (w : World) (hn : l.length = n) (hl : Ls w w.heap.size encEv 2 A l) (hm : l.length ≤ 9223372036854775807) :
    Calls Try.prog 22 #[.agg #[.int .i64 id, .int .i64 series, .int .i64 made, .slice A n c]] w fun e w' => e = .returned (.bool (recB id series made l)) ∧ Below w.heap.size w w' := by
  subst hn
  exact l2Record_any id series made A c l w hl hm

theorem keepB {G : Nat} {w7 W W' : World} (hG : G ≤ w7.heap.size) (h : Below G w7 W) (k : Below W.heap.size W W') : Below G w7 W' := h.trans (k.mono (Nat.le_trans hG h.size))


set_option maxHeartbeats 8000000 in
theorem c_impl_AddEvent (id series made : Int) (A : Option Addr) (c : Nat) (l : List Ev) (k d : Int) (w : World) (hl : Ls w w.heap.size encEv 2 A l) (hm : l.length ≤ 1048576) (hcap : l.length ≤ c) :
    Calls Try.prog 9 #[.agg #[.int .i64 id, .int .i64 series, .int .i64 made, .slice A l.length c], .agg #[.int .i64 k, .int .i64 d]] w (RetRB w (keepI (addB id series made l (k, d)) id) (keepI (addB id series made l (k, d)) series) (keepI (addB id series made l (k, d)) made) (addL id series made l (k, d)) (addB id series made l (k, d))) := by
  have hB : Below w.heap.size w (((w.alloc (.cells (cellsT id series made (.slice A l.length c)) 30)).alloc (.cells #[.int .i64 k, .int .i64 d] 34)).alloc (.cells (cellsT 0 0 0 (.slice none 0 0)) 30)) := blw_alloc (blw_alloc (blw_alloc (Below.refl w.heap.size w) _) _) _
  have hx0 : Blk (((w.alloc (.cells (cellsT id series made (.slice A l.length c)) 30)).alloc (.cells #[.int .i64 k, .int .i64 d] 34)).alloc (.cells (cellsT 0 0 0 (.slice none 0 0)) 30)) w.heap.size 30 (cellsT id series made (.slice A l.length c)) := ((Blk.new w 30 (cellsT id series made (.slice A l.length c))).alloc _).alloc _
  have he0 : Blk (((w.alloc (.cells (cellsT id series made (.slice A l.length c)) 30)).alloc (.cells #[.int .i64 k, .int .i64 d] 34)).alloc (.cells (cellsT 0 0 0 (.slice none 0 0)) 30)) (w.heap.size + 1) 34 #[.int .i64 k, .int .i64 d] := by
    have h := (Blk.new (w.alloc (.cells (cellsT id series made (.slice A l.length c)) 30)) 34 #[.int .i64 k, .int .i64 d]).alloc (.cells (cellsT 0 0 0 (.slice none 0 0)) 30)
    simpa using h
  have hy0 : Blk (((w.alloc (.cells (cellsT id series made (.slice A l.length c)) 30)).alloc (.cells #[.int .i64 k, .int .i64 d] 34)).alloc (.cells (cellsT 0 0 0 (.slice none 0 0)) 30)) (w.heap.size + 2) 30 (cellsT 0 0 0 (.slice none 0 0)) := by
    have h := Blk.new ((w.alloc (.cells (cellsT id series made (.slice A l.length c)) 30)).alloc (.cells #[.int .i64 k, .int .i64 d] 34)) 30 (cellsT 0 0 0 (.slice none 0 0))
    simpa using h
  have hl0 : Ls (((w.alloc (.cells (cellsT id series made (.slice A l.length c)) 30)).alloc (.cells #[.int .i64 k, .int .i64 d] 34)).alloc (.cells (cellsT 0 0 0 (.slice none 0 0)) 30)) (((w.alloc (.cells (cellsT id series made (.slice A l.length c)) 30)).alloc (.cells #[.int .i64 k, .int .i64 d] 34)).alloc (.cells (cellsT 0 0 0 (.slice none 0 0)) 30)).heap.size encEv 2 A l := (hl.below hB).more hB.size
  have hm' : l.length ≤ 9223372036854775807 := by omega
  cases h1 : recB id series made l
  · have Hv := Lib.hid (addB_no (e := (k, d)) (.inl h1))
    go_enter Try.func9, Try.ntmps9
    go_wp2_with fail
    change Calls Try.prog 26 _ (((w.alloc (.cells (cellsT id series made (.slice A l.length c)) 30)).alloc (.cells #[.int .i64 k, .int .i64 d] 34)).alloc (.cells (cellsT 0 0 0 (.slice none 0 0)) 30)) _
    generalize (((w.alloc (.cells (cellsT id series made (.slice A l.length c)) 30)).alloc (.cells #[.int .i64 k, .int .i64 d] 34)).alloc (.cells (cellsT 0 0 0 (.slice none 0 0)) 30)) = W0 at *
    refine (IsRecord_any _ _ _ _ _ l _ hl0 hm').mono ?_
    rw [h1]
    rintro e w1 ⟨rfl, hq1⟩
    have hB1 := blw hB hq1
    have hy1 := hy0.below hq1 hy0.lt
    have hl1 := (hl0.below hq1).more hq1.size
    obtain ⟨y0, y1, y2, y3, g0, g1, g2, g3, yl⟩ := hy1.cellsT
    go_wp2_with fail
    refine bodyPost_ret (v := .tuple #[.agg #[.int .i64 0, .int .i64 0, .int .i64 0, .slice none 0 0], .bool false]) (by simp [results, Try.results9, go_sem, yl, y0, y1, y2, y3]) rfl ⟨none, 0, ?_, ?_, ?_⟩
    · rw [Hv.out.1, Hv.out.2]; rfl
    · rw [Hv.out.1]; exact Vec.nil
    · exact ((((hB1.setCell (Nat.le_add_right _ 2) _).setCell (Nat.le_add_right _ 2) _).setCell (Nat.le_add_right _ 2) _).setCell (Nat.le_add_right _ 2) _)
  · cases h2 : evB k d
    · have Hv := Lib.hid (addB_no (id := id) (series := series) (made := made) (l := l) (e := (k, d)) (.inr (.inl h2)))
      go_enter Try.func9, Try.ntmps9
      go_wp2_with fail
      change Calls Try.prog 26 _ (((w.alloc (.cells (cellsT id series made (.slice A l.length c)) 30)).alloc (.cells #[.int .i64 k, .int .i64 d] 34)).alloc (.cells (cellsT 0 0 0 (.slice none 0 0)) 30)) _
      generalize (((w.alloc (.cells (cellsT id series made (.slice A l.length c)) 30)).alloc (.cells #[.int .i64 k, .int .i64 d] 34)).alloc (.cells (cellsT 0 0 0 (.slice none 0 0)) 30)) = W0 at *
      refine (IsRecord_any _ _ _ _ _ l _ hl0 hm').mono ?_
      rw [h1]
      rintro e w1 ⟨rfl, hq1⟩
      have hB1 := blw hB hq1
      have he1 := he0.below hq1 he0.lt
      have hy1 := hy0.below hq1 hy0.lt
      have hl1 := (hl0.below hq1).more hq1.size
      have e0 := he1.cell 0
      have e1 := he1.cell 1
      have el := he1.lt
      go_wp2_with fail
      refine (IsEvent_any _ _ _).mono ?_
      rw [h2]
      rintro e w2 ⟨rfl, hq2⟩
      have hB2 := blw hB1 hq2
      have hy2 := hy1.below hq2 hy1.lt
      have hl2 := (hl1.below hq2).more hq2.size
      obtain ⟨y0, y1, y2, y3, g0, g1, g2, g3, yl⟩ := hy2.cellsT
      go_wp2_with fail
      refine bodyPost_ret (v := .tuple #[.agg #[.int .i64 0, .int .i64 0, .int .i64 0, .slice none 0 0], .bool false]) (by simp [results, Try.results9, go_sem, yl, y0, y1, y2, y3]) rfl ⟨none, 0, ?_, ?_, ?_⟩
      · rw [Hv.out.1, Hv.out.2]; rfl
      · rw [Hv.out.1]; exact Vec.nil
      · exact ((((hB2.setCell (Nat.le_add_right _ 2) _).setCell (Nat.le_add_right _ 2) _).setCell (Nat.le_add_right _ 2) _).setCell (Nat.le_add_right _ 2) _)
    · have Hno := Lib.hid (fun h3 => addB_no (id := id) (series := series) (made := made) (l := l) (e := (k, d)) (.inr (.inr h3)))
      have Hyes := Lib.hid (fun h3 => addB_yes (e := (k, d)) h1 h2 h3)
      have hl6 := (evB_of_rec h1).2.2.1
      have hlen : (l.length : Int) ≤ 1048576 := by omega
      go_enter Try.func9, Try.ntmps9
      go_wp2_with fail
      change Calls Try.prog 26 _ (((w.alloc (.cells (cellsT id series made (.slice A l.length c)) 30)).alloc (.cells #[.int .i64 k, .int .i64 d] 34)).alloc (.cells (cellsT 0 0 0 (.slice none 0 0)) 30)) _
      generalize (((w.alloc (.cells (cellsT id series made (.slice A l.length c)) 30)).alloc (.cells #[.int .i64 k, .int .i64 d] 34)).alloc (.cells (cellsT 0 0 0 (.slice none 0 0)) 30)) = W0 at *
      refine (IsRecord_any _ _ _ _ _ l _ hl0 hm').mono ?_
      rw [h1]
      rintro e w1 ⟨rfl, hq1⟩
      have hB1 := blw hB hq1
      have hx1 := hx0.below hq1 hx0.lt
      have he1 := he0.below hq1 he0.lt
      have hy1 := hy0.below hq1 hy0.lt
      have hl1 := (hl0.below hq1).more hq1.size
      have e0 := he1.cell 0
      have e1 := he1.cell 1
      have el := he1.lt
      go_wp2_with fail
      refine (IsEvent_any _ _ _).mono ?_
      rw [h2]
      rintro e w2 ⟨rfl, hq2⟩
      clear h1 h2 e0 e1 el
      have hB2 := blw hB1 hq2
      have hx2 := hx1.below hq2 hx1.lt
      have he2 := he1.below hq2 he1.lt
      have hy2 := hy1.below hq2 hy1.lt
      have hl2 := (hl1.below hq2).more hq2.size
      clear hx0 he0 hy0 hl0 hx1 he1 hy1 hl1
      go_wp2_with fail
      go_loopw [6] (fun i wr => ∃ n : Nat, n ≤ l.length ∧ i = .int .i64 n ∧ Below w2.heap.size w2 wr ∧ Hid (∀ j (hj : j < l.length), j < n → l[j].1 < k)) (fun i _ => l.length - (intOf i).toNat)
      case atStart => exact ⟨0, Nat.zero_le _, rfl, Below.refl _ _, fun j _ hj => absurd hj (Nat.not_lt_zero _)⟩
      case round =>
        obtain ⟨n, hn, rfl, hb, HB⟩ := hrel
        have hBr := blw hB2 hb
        have hxr := hx2.below hb hx2.lt
        have her := he2.below hb he2.lt
        have hyr := hy2.below hb hy2.lt
        have hlr := (hl2.below hb).more hb.size
        obtain ⟨x0, x1, x2, x3, f0, f1, f2, f3, xl⟩ := hxr.cellsT
        have e0 := her.cell 0
        have e1 := her.cell 1
        have el := her.lt
        have hn0 : (0 : Int) ≤ (n : Int) := by omega
        by_cases hlt : n < l.length
        · obtain ⟨b, off, rfl, hbb, hc0, hc1⟩ := hlr.at_Event hlt
          have hni : (n : Int) < (l.length : Int) := by omega
          have hnd : decide ((n : Int) < (l.length : Int)) = true := by simpa using hni
          cases hbf : decide (l[n].1 < k)
          · have HP := Lib.hid (plcE_at n hn (fun j hj h => HB.out j hj h) (fun _ => by simpa using hbf))
            go_wp2_with fail
            go_big_region
            go_wp2_with fail
            have hB7 : Below w.heap.size w (wr.alloc (.cells #[.int .i64 id, .int .i64 series, .int .i64 made, .slice (some ⟨b, off, none⟩) l.length c] 30)).drew := (blw_alloc hBr (.cells #[.int .i64 id, .int .i64 series, .int .i64 made, .slice (some ⟨b, off, none⟩) l.length c] 30)).drew
            have hx7 : Blk (wr.alloc (.cells #[.int .i64 id, .int .i64 series, .int .i64 made, .slice (some ⟨b, off, none⟩) l.length c] 30)).drew w.heap.size 30 (cellsT id series made (.slice (some ⟨b, off, none⟩) l.length c)) := Blk.drew (hxr.alloc _)
            have he7 : Blk (wr.alloc (.cells #[.int .i64 id, .int .i64 series, .int .i64 made, .slice (some ⟨b, off, none⟩) l.length c] 30)).drew (w.heap.size + 1) 34 #[.int .i64 k, .int .i64 d] := Blk.drew (her.alloc _)
            have hy7 : Blk (wr.alloc (.cells #[.int .i64 id, .int .i64 series, .int .i64 made, .slice (some ⟨b, off, none⟩) l.length c] 30)).drew (w.heap.size + 2) 30 (cellsT 0 0 0 (.slice none 0 0)) := Blk.drew (hyr.alloc _)
            have ho7 : Blk (wr.alloc (.cells #[.int .i64 id, .int .i64 series, .int .i64 made, .slice (some ⟨b, off, none⟩) l.length c] 30)).drew wr.heap.size 30 #[.int .i64 id, .int .i64 series, .int .i64 made, .slice (some ⟨b, off, none⟩) l.length c] := Blk.drew (Blk.new wr 30 #[.int .i64 id, .int .i64 series, .int .i64 made, .slice (some ⟨b, off, none⟩) l.length c])
            have hw7 : wr.heap.size < (wr.alloc (.cells #[.int .i64 id, .int .i64 series, .int .i64 made, .slice (some ⟨b, off, none⟩) l.length c] 30)).drew.heap.size := ho7.lt
            have hG : w.heap.size + 2 < wr.heap.size := hyr.lt
            clear x0 x1 x2 x3 f0 f1 f2 f3 xl e0 e1 el
            generalize (wr.alloc (.cells #[.int .i64 id, .int .i64 series, .int .i64 made, .slice (some ⟨b, off, none⟩) l.length c] 30)).drew = w7 at *
            have hG7 : wr.heap.size ≤ w7.heap.size := by omega
            have HL : Hid (∀ W, Below wr.heap.size w7 W → Ls W W.heap.size encEv 2 (some ⟨b, off, none⟩) l) := fun W hb => (hl.below (hB7.trans (hb.mono (by omega)))).more (hB7.trans (hb.mono (by omega))).size
            have HK : Hid (∀ W, Below wr.heap.size w7 W → Below wr.heap.size w7 W ∧ W.cell? ⟨w.heap.size, 3, none⟩ = some (.slice (some ⟨b, off, none⟩) l.length c) ∧ W.cell? ⟨w.heap.size + 1, 0, none⟩ = some (.int .i64 k) ∧ W.cell? ⟨w.heap.size + 1, 1, none⟩ = some (.int .i64 d)) := fun W hb => ⟨hb, (hb.cell (p := ⟨w.heap.size, 3, none⟩) (by show w.heap.size < _; omega)).trans (hx7.cell 3), (hb.cell (p := ⟨w.heap.size + 1, 0, none⟩) (by show w.heap.size + 1 < _; omega)).trans (he7.cell 0), (hb.cell (p := ⟨w.heap.size + 1, 1, none⟩) (by show w.heap.size + 1 < _; omega)).trans (he7.cell 1)⟩
            go_region_held3 (fun W => Below wr.heap.size w7 W ∧ W.cell? ⟨w.heap.size, 3, none⟩ = some (.slice (some ⟨b, off, none⟩) l.length c) ∧ W.cell? ⟨w.heap.size + 1, 0, none⟩ = some (.int .i64 k) ∧ W.cell? ⟨w.heap.size + 1, 1, none⟩ = some (.int .i64 d))
              (first | exact HK.out _ (Below.refl _ _).drew | exact HK.out _ (keepB hG7 (And.left ‹Below wr.heap.size w7 _ ∧ _›) hdc) | exact HK.out _ (keepB hG7 (And.left ‹Below wr.heap.size w7 _ ∧ _›) ((Below.refl _ _).alloc (Nat.le_refl _) _)) | exact HK.out _ (Below.trans (And.left ‹Below wr.heap.size w7 _ ∧ _›) hwi) | exact HK.out _ (Below.setCell (And.left ‹Below wr.heap.size w7 _ ∧ _›) (Nat.le_refl _) _))
              (first | (go_at_call 29; refine (Clone_Event _ _ l _ (HL.out _ (And.left ‹Below wr.heap.size w7 _ ∧ _›)) hm).mono ?_; rintro e wc ⟨A3, c3, rfl, hv3, hdc⟩; have hv3' := hv3.mono (show w7.heap.size ≤ _ from (Below.size (And.left ‹Below wr.heap.size w7 _ ∧ _›))); have hk3 : Blk wc wr.heap.size 30 #[.int .i64 id, .int .i64 series, .int .i64 made, .slice (some ⟨b, off, none⟩) l.length c] := (by first | exact (Blk.drew ho7).below hdc (Blk.drew ho7).lt | exact ((Blk.drew ho7).alloc _).below hdc ((Blk.drew ho7).alloc _).lt)) | (go_at_call 28; refine (Insert_Event A3 c3 w7.heap.size _ n l (k, d) _ (by first | exact hv3' | exact hv3'.alloc _) (by first | exact Blk.new _ _ _ | exact (Blk.new w7.drew 34 #[.int .i64 k, .int .i64 d]).below hdc (Blk.new w7.drew 34 #[.int .i64 k, .int .i64 d]).lt) (by first | exact fun h => Nat.lt_irrefl _ (hv3.block h).2 | exact fun h => by have := (hv3.block h).1; simp at this <;> omega) hm hn (Below.size (And.left ‹Below wr.heap.size w7 _ ∧ _›))).mono ?_; rintro e wi ⟨A4, c4, rfl, hv4, hw4⟩; have hne4 : ¬ blkOf A3 wr.heap.size := (fun h => (by have := (hv3'.block h).1; omega)); have hk4 : Blk wi wr.heap.size 30 #[.int .i64 id, .int .i64 series, .int .i64 made, .slice (some ⟨b, off, none⟩) l.length c] := (by first | exact hk3.wr hw4 hne4 | exact (hk3.alloc _).wr hw4 hne4); have hwi := hw4.below (B := wr.heap.size) (Nat.le_trans hG7 (Below.size (And.left ‹Below wr.heap.size w7 _ ∧ _›))) (fun q hq => (by have := (hv3'.block hq).1; omega)); have hs3 := hk4.cell 3; have hf3 := hk4.frozen 3))
            all_goals
              have hBS := (And.left ‹Below wr.heap.size w7 _ ∧ _›)
              have hB8 := hB7.trans (hBS.mono (show w.heap.size ≤ wr.heap.size by omega))
              have hw8 : Wr (fun q => q = wr.heap.size) wi (wi.setCell ⟨wr.heap.size, 3, none⟩ (.slice A4 (l.length + 1) c4)) := Wr.setCell (S := fun q => q = wr.heap.size) (p := ⟨wr.heap.size, 3, none⟩) (Wr.refl _ wi) (.inl rfl) _
              have hv8 := hv4.wr_up hw8 (fun q hq hS => by omega)
              have HE : Hid (l.take (n) ++ (k, d) :: l.drop (n) = insE l (k, d)) := by unfold Hid insE; rw [HP.out]
              rw [HE.out] at hv8
              have hLE := insE_len l (k, d)
              have ho8 : Blk (wi.setCell ⟨wr.heap.size, 3, none⟩ (.slice A4 (l.length + 1) c4)) wr.heap.size 30 (cellsT id series made (.slice A4 (l.length + 1) c4)) := by
                have h := hk4.set_ 3 (.slice A4 (l.length + 1) c4)
                simpa [cellsT] using h
              have hy8 := hy7.below hBS (by omega)
              clear hs3 hf3 HK HL hx7 he7 hy7 ho7 hk3 hk4 hwi hw4 hv4 hw8 hdc
              generalize (wi.setCell ⟨wr.heap.size, 3, none⟩ (.slice A4 (l.length + 1) c4)) = w8 at *
              obtain ⟨o0, o1, o2, o3, p0, p1, p2, p3, ol⟩ := ho8.cellsT
              have Hv8 := Lib.hid hv8
              clear hv8
              cases h3 : recB id series made (insE l (k, d))
              · have Hv := Lib.hid (Hno.out h3)
                go_wp2_with fail
                refine (IsRecord_n id series made A4 c4 _ (insE l (k, d)) _ hLE ((by have h := Hv8.out.ls encEv_len (A := A4) (n := l.length + 1) (c := c4); exact h)) (by rw [hLE]; omega)).mono ?_
                rw [h3]
                rintro e w9 ⟨rfl, hq9⟩
                have hB9 := blw hB8 hq9
                have hy9 := hy8.below hq9 hy8.lt
                obtain ⟨y0, y1, y2, y3, g0, g1, g2, g3, yl⟩ := hy9.cellsT
                go_wp2_with fail
                refine bodyPost_ret (v := .tuple #[.agg #[.int .i64 0, .int .i64 0, .int .i64 0, .slice none 0 0], .bool false]) (by simp [results, Try.results9, go_sem, yl, y0, y1, y2, y3]) rfl ⟨none, 0, ?_, ?_, ?_⟩
                · rw [Hv.out.1, Hv.out.2]; rfl
                · rw [Hv.out.1]; exact Vec.nil
                · exact ((((hB9.setCell (Nat.le_add_right _ 2) _).setCell (Nat.le_add_right _ 2) _).setCell (Nat.le_add_right _ 2) _).setCell (Nat.le_add_right _ 2) _)
              · have Hv := Lib.hid (Hyes.out h3)
                go_wp2_with fail
                refine (IsRecord_n id series made A4 c4 _ (insE l (k, d)) _ hLE ((by have h := Hv8.out.ls encEv_len (A := A4) (n := l.length + 1) (c := c4); exact h)) (by rw [hLE]; omega)).mono ?_
                rw [h3]
                rintro e w9 ⟨rfl, hq9⟩
                have hB9 := blw hB8 hq9
                have hy9 := hy8.below hq9 hy8.lt
                have ho9 := ho8.below hq9 ho8.lt
                clear o0 o1 o2 o3 p0 p1 p2 p3 ol
                obtain ⟨o0, o1, o2, o3, p0, p1, p2, p3, ol⟩ := ho9.cellsT
                obtain ⟨y0, y1, y2, y3, g0, g1, g2, g3, yl⟩ := hy9.cellsT
                have Hb9 := Lib.hid hq9
                have hns : ¬ w.heap.size + 2 = wr.heap.size := by omega
                have hns2 : ¬ wr.heap.size = w.heap.size + 2 := by omega
                clear hq9
                go_wp2_with fail
                refine bodyPost_ret (v := .tuple #[.agg #[.int .i64 id, .int .i64 series, .int .i64 made, .slice A4 (l.length + 1) c4], .bool true]) (by simp [results, Try.results9, go_sem, yl, y0, y1, y2, y3, hns, hns2]) rfl ⟨A4, c4, ?_, ?_, ?_⟩
                · rw [Hv.out.1, Hv.out.2, hLE]; rfl
                · rw [Hv.out.1, hLE]
                  have hw := ((((Wr.refl (fun q => q = w.heap.size + 2) w9).setCell (p := ⟨w.heap.size + 2, 0, none⟩) (.inl rfl) (.int .i64 id)).setCell (p := ⟨w.heap.size + 2, 1, none⟩) (.inl rfl) (.int .i64 series)).setCell (p := ⟨w.heap.size + 2, 2, none⟩) (.inl rfl) (.int .i64 made)).setCell (p := ⟨w.heap.size + 2, 3, none⟩) (.inl rfl) (.slice A4 (l.length + 1) c4)
                  have h := ((Hv8.out.on Hb9.out).wr_up hw (fun q hq hS => by omega)).mono (show w.heap.size ≤ w7.heap.size by omega)
                  exact h
                · exact ((((hB9.setCell (Nat.le_add_right _ 2) _).setCell (Nat.le_add_right _ 2) _).setCell (Nat.le_add_right _ 2) _).setCell (Nat.le_add_right _ 2) _)
          · have hbt : l[n].1 < k := by simpa using hbf
            go_wp2_with fail
            go_big_region
            go_wp2_with fail
            go_roundw
            case rel => exact ⟨n + 1, by omega, by go_num, hb.drew, fun j hj h => by rcases Nat.lt_or_eq_of_le (Nat.le_of_lt_succ h) with h' | rfl; exact HB.out j hj h'; exact hbt⟩
            case measure => simp [intOf]; omega
        · obtain rfl : n = l.length := by omega
          have hnd : decide ((l.length : Int) < (l.length : Int)) = false := by simp
          have HP := Lib.hid (plcE_at l.length hn (fun j hj h => HB.out j hj h) (fun h => absurd h hlt))
          go_wp2_with fail
          go_big_region
          go_wp2_with fail
          have hB7 : Below w.heap.size w (wr.alloc (.cells #[.int .i64 id, .int .i64 series, .int .i64 made, .slice A l.length c] 30)).drew := (blw_alloc hBr (.cells #[.int .i64 id, .int .i64 series, .int .i64 made, .slice A l.length c] 30)).drew
          have hx7 : Blk (wr.alloc (.cells #[.int .i64 id, .int .i64 series, .int .i64 made, .slice A l.length c] 30)).drew w.heap.size 30 (cellsT id series made (.slice A l.length c)) := Blk.drew (hxr.alloc _)
          have he7 : Blk (wr.alloc (.cells #[.int .i64 id, .int .i64 series, .int .i64 made, .slice A l.length c] 30)).drew (w.heap.size + 1) 34 #[.int .i64 k, .int .i64 d] := Blk.drew (her.alloc _)
          have hy7 : Blk (wr.alloc (.cells #[.int .i64 id, .int .i64 series, .int .i64 made, .slice A l.length c] 30)).drew (w.heap.size + 2) 30 (cellsT 0 0 0 (.slice none 0 0)) := Blk.drew (hyr.alloc _)
          have ho7 : Blk (wr.alloc (.cells #[.int .i64 id, .int .i64 series, .int .i64 made, .slice A l.length c] 30)).drew wr.heap.size 30 #[.int .i64 id, .int .i64 series, .int .i64 made, .slice A l.length c] := Blk.drew (Blk.new wr 30 #[.int .i64 id, .int .i64 series, .int .i64 made, .slice A l.length c])
          have hw7 : wr.heap.size < (wr.alloc (.cells #[.int .i64 id, .int .i64 series, .int .i64 made, .slice A l.length c] 30)).drew.heap.size := ho7.lt
          have hG : w.heap.size + 2 < wr.heap.size := hyr.lt
          clear x0 x1 x2 x3 f0 f1 f2 f3 xl e0 e1 el
          generalize (wr.alloc (.cells #[.int .i64 id, .int .i64 series, .int .i64 made, .slice A l.length c] 30)).drew = w7 at *
          have hG7 : wr.heap.size ≤ w7.heap.size := by omega
          have HL : Hid (∀ W, Below wr.heap.size w7 W → Ls W W.heap.size encEv 2 A l) := fun W hb => (hl.below (hB7.trans (hb.mono (by omega)))).more (hB7.trans (hb.mono (by omega))).size
          have HK : Hid (∀ W, Below wr.heap.size w7 W → Below wr.heap.size w7 W ∧ W.cell? ⟨w.heap.size, 3, none⟩ = some (.slice A l.length c) ∧ W.cell? ⟨w.heap.size + 1, 0, none⟩ = some (.int .i64 k) ∧ W.cell? ⟨w.heap.size + 1, 1, none⟩ = some (.int .i64 d)) := fun W hb => ⟨hb, (hb.cell (p := ⟨w.heap.size, 3, none⟩) (by show w.heap.size < _; omega)).trans (hx7.cell 3), (hb.cell (p := ⟨w.heap.size + 1, 0, none⟩) (by show w.heap.size + 1 < _; omega)).trans (he7.cell 0), (hb.cell (p := ⟨w.heap.size + 1, 1, none⟩) (by show w.heap.size + 1 < _; omega)).trans (he7.cell 1)⟩
          go_region_held3 (fun W => Below wr.heap.size w7 W ∧ W.cell? ⟨w.heap.size, 3, none⟩ = some (.slice A l.length c) ∧ W.cell? ⟨w.heap.size + 1, 0, none⟩ = some (.int .i64 k) ∧ W.cell? ⟨w.heap.size + 1, 1, none⟩ = some (.int .i64 d))
            (first | exact HK.out _ (Below.refl _ _).drew | exact HK.out _ (keepB hG7 (And.left ‹Below wr.heap.size w7 _ ∧ _›) hdc) | exact HK.out _ (keepB hG7 (And.left ‹Below wr.heap.size w7 _ ∧ _›) ((Below.refl _ _).alloc (Nat.le_refl _) _)) | exact HK.out _ (Below.trans (And.left ‹Below wr.heap.size w7 _ ∧ _›) hwi) | exact HK.out _ (Below.setCell (And.left ‹Below wr.heap.size w7 _ ∧ _›) (Nat.le_refl _) _))
            (first | (go_at_call 29; refine (Clone_Event _ _ l _ (HL.out _ (And.left ‹Below wr.heap.size w7 _ ∧ _›)) hm).mono ?_; rintro e wc ⟨A3, c3, rfl, hv3, hdc⟩; have hv3' := hv3.mono (show w7.heap.size ≤ _ from (Below.size (And.left ‹Below wr.heap.size w7 _ ∧ _›))); have hk3 : Blk wc wr.heap.size 30 #[.int .i64 id, .int .i64 series, .int .i64 made, .slice A l.length c] := (by first | exact (Blk.drew ho7).below hdc (Blk.drew ho7).lt | exact ((Blk.drew ho7).alloc _).below hdc ((Blk.drew ho7).alloc _).lt)) | (go_at_call 28; refine (Insert_Event A3 c3 w7.heap.size _ l.length l (k, d) _ (by first | exact hv3' | exact hv3'.alloc _) (by first | exact Blk.new _ _ _ | exact (Blk.new w7.drew 34 #[.int .i64 k, .int .i64 d]).below hdc (Blk.new w7.drew 34 #[.int .i64 k, .int .i64 d]).lt) (by first | exact fun h => Nat.lt_irrefl _ (hv3.block h).2 | exact fun h => by have := (hv3.block h).1; simp at this <;> omega) hm hn (Below.size (And.left ‹Below wr.heap.size w7 _ ∧ _›))).mono ?_; rintro e wi ⟨A4, c4, rfl, hv4, hw4⟩; have hne4 : ¬ blkOf A3 wr.heap.size := (fun h => (by have := (hv3'.block h).1; omega)); have hk4 : Blk wi wr.heap.size 30 #[.int .i64 id, .int .i64 series, .int .i64 made, .slice A l.length c] := (by first | exact hk3.wr hw4 hne4 | exact (hk3.alloc _).wr hw4 hne4); have hwi := hw4.below (B := wr.heap.size) (Nat.le_trans hG7 (Below.size (And.left ‹Below wr.heap.size w7 _ ∧ _›))) (fun q hq => (by have := (hv3'.block hq).1; omega)); have hs3 := hk4.cell 3; have hf3 := hk4.frozen 3))
          all_goals
            have hBS := (And.left ‹Below wr.heap.size w7 _ ∧ _›)
            have hB8 := hB7.trans (hBS.mono (show w.heap.size ≤ wr.heap.size by omega))
            have hw8 : Wr (fun q => q = wr.heap.size) wi (wi.setCell ⟨wr.heap.size, 3, none⟩ (.slice A4 (l.length + 1) c4)) := Wr.setCell (S := fun q => q = wr.heap.size) (p := ⟨wr.heap.size, 3, none⟩) (Wr.refl _ wi) (.inl rfl) _
            have hv8 := hv4.wr_up hw8 (fun q hq hS => by omega)
            have HE : Hid (l.take (l.length) ++ (k, d) :: l.drop (l.length) = insE l (k, d)) := by unfold Hid insE; rw [HP.out]
            rw [HE.out] at hv8
            have hLE := insE_len l (k, d)
            have ho8 : Blk (wi.setCell ⟨wr.heap.size, 3, none⟩ (.slice A4 (l.length + 1) c4)) wr.heap.size 30 (cellsT id series made (.slice A4 (l.length + 1) c4)) := by
              have h := hk4.set_ 3 (.slice A4 (l.length + 1) c4)
              simpa [cellsT] using h
            have hy8 := hy7.below hBS (by omega)
            clear hs3 hf3 HK HL hx7 he7 hy7 ho7 hk3 hk4 hwi hw4 hv4 hw8 hdc
            generalize (wi.setCell ⟨wr.heap.size, 3, none⟩ (.slice A4 (l.length + 1) c4)) = w8 at *
            obtain ⟨o0, o1, o2, o3, p0, p1, p2, p3, ol⟩ := ho8.cellsT
            have Hv8 := Lib.hid hv8
            clear hv8
            cases h3 : recB id series made (insE l (k, d))
            · have Hv := Lib.hid (Hno.out h3)
              go_wp2_with fail
              refine (IsRecord_n id series made A4 c4 _ (insE l (k, d)) _ hLE ((by have h := Hv8.out.ls encEv_len (A := A4) (n := l.length + 1) (c := c4); exact h)) (by rw [hLE]; omega)).mono ?_
              rw [h3]
              rintro e w9 ⟨rfl, hq9⟩
              have hB9 := blw hB8 hq9
              have hy9 := hy8.below hq9 hy8.lt
              obtain ⟨y0, y1, y2, y3, g0, g1, g2, g3, yl⟩ := hy9.cellsT
              go_wp2_with fail
              refine bodyPost_ret (v := .tuple #[.agg #[.int .i64 0, .int .i64 0, .int .i64 0, .slice none 0 0], .bool false]) (by simp [results, Try.results9, go_sem, yl, y0, y1, y2, y3]) rfl ⟨none, 0, ?_, ?_, ?_⟩
              · rw [Hv.out.1, Hv.out.2]; rfl
              · rw [Hv.out.1]; exact Vec.nil
              · exact ((((hB9.setCell (Nat.le_add_right _ 2) _).setCell (Nat.le_add_right _ 2) _).setCell (Nat.le_add_right _ 2) _).setCell (Nat.le_add_right _ 2) _)
            · have Hv := Lib.hid (Hyes.out h3)
              go_wp2_with fail
              refine (IsRecord_n id series made A4 c4 _ (insE l (k, d)) _ hLE ((by have h := Hv8.out.ls encEv_len (A := A4) (n := l.length + 1) (c := c4); exact h)) (by rw [hLE]; omega)).mono ?_
              rw [h3]
              rintro e w9 ⟨rfl, hq9⟩
              have hB9 := blw hB8 hq9
              have hy9 := hy8.below hq9 hy8.lt
              have ho9 := ho8.below hq9 ho8.lt
              clear o0 o1 o2 o3 p0 p1 p2 p3 ol
              obtain ⟨o0, o1, o2, o3, p0, p1, p2, p3, ol⟩ := ho9.cellsT
              obtain ⟨y0, y1, y2, y3, g0, g1, g2, g3, yl⟩ := hy9.cellsT
              have Hb9 := Lib.hid hq9
              have hns : ¬ w.heap.size + 2 = wr.heap.size := by omega
              have hns2 : ¬ wr.heap.size = w.heap.size + 2 := by omega
              clear hq9
              go_wp2_with fail
              refine bodyPost_ret (v := .tuple #[.agg #[.int .i64 id, .int .i64 series, .int .i64 made, .slice A4 (l.length + 1) c4], .bool true]) (by simp [results, Try.results9, go_sem, yl, y0, y1, y2, y3, hns, hns2]) rfl ⟨A4, c4, ?_, ?_, ?_⟩
              · rw [Hv.out.1, Hv.out.2, hLE]; rfl
              · rw [Hv.out.1, hLE]
                have hw := ((((Wr.refl (fun q => q = w.heap.size + 2) w9).setCell (p := ⟨w.heap.size + 2, 0, none⟩) (.inl rfl) (.int .i64 id)).setCell (p := ⟨w.heap.size + 2, 1, none⟩) (.inl rfl) (.int .i64 series)).setCell (p := ⟨w.heap.size + 2, 2, none⟩) (.inl rfl) (.int .i64 made)).setCell (p := ⟨w.heap.size + 2, 3, none⟩) (.inl rfl) (.slice A4 (l.length + 1) c4)
                have h := ((Hv8.out.on Hb9.out).wr_up hw (fun q hq hS => by omega)).mono (show w.heap.size ≤ w7.heap.size by omega)
                exact h
              · exact ((((hB9.setCell (Nat.le_add_right _ 2) _).setCell (Nat.le_add_right _ 2) _).setCell (Nat.le_add_right _ 2) _).setCell (Nat.le_add_right _ 2) _)

end Go.Proofs.Ytnohonedfeacdaa
