/- Contracts: SeriesPages of the program. -/
import Derived.Test.YtlhihdcdbclcbaaDoorSj
import Derived.Test.YtlhihdcdbclcbaaDoorC
import Derived.Test.YtlhihdcdbclcbaaDoorW5d
import Derived.RegionTactic
import Derived.ChangeAlike
namespace Go.Proofs.YtlhihdcdbclcbaaDoor
set_option linter.unusedVariables false
set_option linter.unusedSimpArgs false
open Go.RowKit
attribute [local go_sem] Aft.cell

set_option maxHeartbeats 400000 in
theorem rowCmp_any (g : Nat) (t : Tri) (x : Int) (w : World) (hb : Blk w g 3 (triC t)) :
    Calls Tryd.prog 28 #[.slice (some ⟨g, 0, none⟩) 3 3, .int .i64 x] w fun e w' => e = .returned (.int .i64 (cmpI t.s x)) ∧ w = w' := by
  have h0 : w.cell? ⟨g, 0, none⟩ = some (.int .i64 t.s) := hb.cell 0
  clear hb
  go_enter Tryd.func28, Tryd.ntmps28
  go_wp2_with (go_at_call 29; refine (Compare_any _ _ _).mono ?_; rintro e w' ⟨rfl, rfl⟩)
  go_ret
  exact ⟨rfl, rfl⟩
theorem cmpI_lt {a b : Int} (h : a < b) : cmpI a b = -1 := by simp [cmpI, h]
theorem cmpI_ge {a b : Int} (h : b ≤ a) : ¬ cmpI a b < 0 := by
  unfold cmpI
  rw [if_neg (by omega)]
  split <;> omega
theorem cmpI_zero {a b : Int} : decide (cmpI a b = 0) = decide (a = b) := by
  unfold cmpI
  by_cases h1 : a < b
  · rw [if_pos h1]; simp; omega
  · rw [if_neg h1]
    by_cases h2 : b < a
    · rw [if_pos h2]; simp; omega
    · rw [if_neg h2]; simp; omega

set_option maxHeartbeats 2000000 in
theorem BSearch_Row (A : Option Addr) (c : Nat) (R : List SRow) (p : Nat) (x : Int) (fb : Bool) (w : World) (hl : Ls w w.heap.size encSR 1 A R) (hr : ∀ r ∈ R, Blk w r.g 3 (triC r.t)) (hm : R.length ≤ 1048576) (hp : p ≤ R.length)
    (h1 : ∀ t (ht : t < R.length), t < p → R[t].t.s < x) (h2 : ∀ t (ht : t < R.length), p ≤ t → x ≤ R[t].t.s) (h3 : ∀ h : p < R.length, decide (R[p].t.s = x) = fb) (h4 : p = R.length → fb = false) :
    Calls Tryd.prog 27 #[.slice A R.length c, .int .i64 x, .func (.func 28) #[] #[]] w fun e w' => e = .returned (.tuple #[.int .i64 (p : Int), .bool fb]) ∧ w = w' := by
  have hlen : (R.length : Int) ≤ 1048576 := by omega
  have H1 := Lib.hid h1
  have H2 := Lib.hid h2
  have H3 := Lib.hid h3
  have H4 := Lib.hid h4
  have Hr := Lib.hid hr
  clear h1 h2 h3 h4 hr
  go_enter Tryd.func27, Tryd.ntmps27
  go_wp2_with fail
  go_loop [9, 10] (fun i j => ∃ lo hi : Nat, i = .int .i64 lo ∧ j = .int .i64 hi ∧ lo ≤ p ∧ p ≤ hi ∧ hi ≤ R.length) (fun i j => (intOf j).toNat - (intOf i).toNat)
  case atStart => exact ⟨0, R.length, rfl, rfl, Nat.zero_le _, hp, Nat.le_refl _⟩
  case round =>
    obtain ⟨lo, hi, rfl, rfl, hlo, hhi, hin⟩ := hrel
    by_cases hlt : lo < hi
    · have hmid : (lo + hi) / 2 < R.length := by omega
      obtain ⟨b, off, rfl, hbb, hc0⟩ := hl.at_SR hmid
      have hcm := rowCmp_any R[(lo + hi) / 2].g R[(lo + hi) / 2].t x w (Hr.out _ (List.getElem_mem hmid))
      have Hc := Lib.hid hcm
      clear hcm
      by_cases hbf : (lo + hi) / 2 < p
      · have hlt2 := H1.out _ hmid hbf
        have hz : cmpI R[(lo + hi) / 2].t.s x < 0 := by rw [cmpI_lt hlt2]; omega
        clear hlt2
        go_wp2_with fail
        refine Hc.out.mono ?_
        rintro e _ ⟨rfl, rfl⟩
        go_wp2_with fail
        go_round
        case rel => exact ⟨(lo + hi) / 2 + 1, hi, by rw [show ((lo : Int) + (hi : Int)) / 2 + 1 = (((lo + hi) / 2 + 1 : Nat) : Int) by omega], rfl, by omega, by omega, by omega⟩
        case measure => simp [intOf]; omega
      · have hz : ¬ cmpI R[(lo + hi) / 2].t.s x < 0 := cmpI_ge (H2.out _ hmid (by omega))
        go_wp2_with fail
        refine Hc.out.mono ?_
        rintro e _ ⟨rfl, rfl⟩
        go_wp2_with fail
        go_round
        case rel => exact ⟨lo, (lo + hi) / 2, rfl, by go_num, by omega, by omega, by omega⟩
        case measure => simp [intOf]; omega
    · obtain rfl : hi = lo := by omega
      obtain rfl : p = hi := by omega
      by_cases hn : p < R.length
      · obtain ⟨b, off, rfl, hbb, hc0⟩ := hl.at_SR hn
        have hni : (p : Int) < (R.length : Int) := by omega
        have hcm := rowCmp_any R[p].g R[p].t x w (Hr.out _ (List.getElem_mem hn))
        have Ht := Lib.hid (cmpI_zero.trans (H3.out hn))
        have Hc := Lib.hid hcm
        clear hcm
        go_wp2_with fail
        refine Hc.out.mono ?_
        rintro e _ ⟨rfl, rfl⟩
        go_wp2_with fail
        go_ret2
        exact ⟨by rw [← Ht.out]; first | rfl | simp, rfl⟩
      · have hni : ¬ (p : Int) < (R.length : Int) := by omega
        have Hn := Lib.hid (H4.out (by omega))
        go_wp2_with fail
        go_ret2
        exact ⟨by rw [Hn.out]; first | rfl | simp [Act.put], rfl⟩

theorem split_lt {X Z : List SRow} {x : Int} (h : ∀ r ∈ X, r.t.s < x) : ∀ t (ht : t < (X ++ Z).length), t < X.length → (X ++ Z)[t].t.s < x := fun t ht h1 => by
  rw [List.getElem_append_left h1]
  exact h _ (List.getElem_mem _)
theorem split_ge {X Z : List SRow} {x : Int} (h : ∀ r ∈ Z, x ≤ r.t.s) : ∀ t (ht : t < (X ++ Z).length), X.length ≤ t → x ≤ (X ++ Z)[t].t.s := fun t ht h1 => by
  rw [List.getElem_append_right h1]
  exact h _ (List.getElem_mem _)
theorem split_ne {X Z : List SRow} {x : Int} (h : ∀ r ∈ Z, x < r.t.s) : ∀ h : X.length < (X ++ Z).length, decide ((X ++ Z)[X.length].t.s = x) = false := fun h1 => by
  rw [List.getElem_append_right (Nat.le_refl _)]
  have h2 := h _ (List.getElem_mem (l := Z) (n := X.length - X.length) (by simp at h1 ⊢; exact h1))
  simp only [decide_eq_false_iff_not]
  omega
theorem serL_no {l : List FileD} (h : filesB l = false) : serL l = [] := by simp [serL, h]
theorem serL_yes {l : List FileD} (h : filesB l = true) : serL l = serP l := by simp [serL, h]
theorem serP_nil : serP [] = [] := by decide
theorem map_mem_s {R : List SRow} {X : List Tri} (h : R.map (·.t) = X) {P : Tri → Prop} (hX : ∀ t ∈ X, P t) : ∀ r ∈ R, P r.t := fun r hr => hX _ (by rw [← h]; exact List.mem_map.2 ⟨r, hr, rfl⟩)
theorem row_len {R : List SRow} {l : List FileD} {k : Nat} (h : R.map (·.t) = serP (l.take k)) : R.length ≤ 99 := by
  have h1 := congrArg List.length h
  rw [List.length_map] at h1
  rw [h1]
  unfold serP serR
  exact Nat.le_trans (List.length_filterMap_le _ _) (by simp)
theorem Vec.retag {w : World} {base c n : Nat} {t : TypeId} {A : Option Addr} {R R' : List SRow} (h : Vec w base t encSR 1 (.slice A n c) R) (he : R.flatMap encSR = R'.flatMap encSR) (hn : R.length = R'.length) : Vec w base t encSR 1 (.slice A n c) R' := by
  unfold Vec at h ⊢
  rw [← he, ← hn]
  exact h

set_option maxRecDepth 100000 in
set_option maxHeartbeats 4000000 in
theorem c_impl_SeriesPages (A : Option Addr) (c : Nat) (l : List FileD) (w : World) (hl : Ls w w.heap.size encFile 7 A l) (hm : l.length ≤ 1048576) (hnm : ∀ f ∈ l, f.title.size ≤ 1048576) (hcap : l.length ≤ c) :
    Calls Tryd.prog 9 #[.slice A l.length c] w (RetR w (serL l) (filesB l)) := by
  have hA := AreFiles_any A c l w hl hm hnm hcap
  cases hok : filesB l
  · have Hv := Lib.hid (serL_no hok)
    rw [hok] at hA
    clear hok
    go_enter Tryd.func9, Tryd.ntmps9
    go_wp2_with fail
    refine hA.mono ?_
    rintro e w1 ⟨rfl, q1⟩
    go_wp2_with fail
    go_ret2
    exact ⟨none, 0, [], rfl, Vec.nil, RowsAt.nil, by rw [Hv.out]; rfl, q1⟩
  · have Hv := Lib.hid (serL_yes hok)
    rw [hok] at hA
    have Hok := Lib.hid hok
    have h10 := (files_all hok).1
    clear hok
    have hlen : (l.length : Int) ≤ 10 := by omega
    go_enter Tryd.func9, Tryd.ntmps9
    go_wp2_with fail
    refine hA.mono ?_
    rintro e w1 ⟨rfl, q1⟩
    clear hA
    go_wp2_with fail
    go_loopw [4, 14] (fun v i wr => ∃ (k : Nat) (A9 : Option Addr) (c9 : Nat) (R : List SRow), k ≤ l.length ∧ i = .int .i64 k ∧ v = .slice A9 R.length c9 ∧ Below w.heap.size w wr ∧ Vec wr w.heap.size 37 encSR 1 (.slice A9 R.length c9) R ∧ RowsAt wr w.heap.size R ∧ Hid (R.map (·.t) = serP (l.take k))) (fun _ i _ => l.length - (intOf i).toNat)
    case atStart => exact ⟨0, none, 0, [], Nat.zero_le _, rfl, rfl, q1, Vec.nil, RowsAt.nil, by rw [List.take_zero, serP_nil]; rfl⟩
    case round =>
      obtain ⟨k, A9, c9, R, hk, rfl, rfl, hb, hv, hR, hM⟩ := hrel
      by_cases hlt : k < l.length
      · have hR99 := row_len hM.out
        obtain ⟨hs1, hs2, hs3, hs4⟩ := ser_bd Hok.out hlt
        obtain ⟨bn1, bn2, bn3, bn4⟩ := sumS_bd Hok.out k l[k].series
        obtain ⟨X, Z, eL, eS, hX, hZ⟩ := ser_step (l.take k) l[k] hs1 hs2
        rw [← List.take_succ_eq_append_getElem hlt] at eS
        have hM' := hM.out.trans eL
        obtain ⟨RX, RY, hRe, eX, eY⟩ := List.map_eq_append_iff.1 hM'
        have hRX := map_mem_s eX hX
        have hz : ¬ 0 < cntS (l.take k) l[k].series → cntS (l.take k) l[k].series = 0 ∧ sumS (l.take k) l[k].series = 0 := sumS_zero
        obtain ⟨b, off, rfl, hbb, c0, c1', c2', c3', c4', c5', c6⟩ := (hl.below hb).at_File hlt
        obtain ⟨n0, hn0⟩ : ∃ n, n = cntS (l.take k) l[k].series := ⟨_, rfl⟩
        obtain ⟨p0, hp0⟩ : ∃ n, n = sumS (l.take k) l[k].series := ⟨_, rfl⟩
        have hrow : rowOf (l.take k) l[k].series = if 0 < n0 then some ⟨l[k].series, n0, p0⟩ else none := by rw [hn0, hp0]; rfl
        rw [hrow] at eY
        rw [← hn0, ← hp0] at eS hz
        rw [← hn0] at bn1 bn2
        rw [← hp0] at bn3 bn4
        clear hM hM' eL hn0 hp0 hrow
        generalize l[k].series = sr at *
        generalize l[k].pages = pg at *
        generalize l[k].id = f0 at *
        generalize l[k].title = f2 at *
        generalize l[k].opened = f3 at *
        generalize l[k].closed = f4 at *
        generalize l[k].state = f5 at *
        have HS := Lib.hid eS.symm
        have HX := Lib.hid eX
        clear eS eX hX
        have hsz := hb.size
        have hq : b < wr.heap.size := by omega
        have hi0 : (0 : Int) ≤ (k : Int) := by omega
        have hi1 : (k : Int) < (l.length : Int) := by omega
        have q2 : Below wr.heap.size wr (wr.alloc (.cells #[.int .i64 f0, .int .i64 sr, .string f2, .int .i64 f3, .int .i64 f4, .int .i64 f5, .int .i64 pg] 47)) := blw_alloc (Below.refl _ _) _
        have hbx : Blk (wr.alloc (.cells #[.int .i64 f0, .int .i64 sr, .string f2, .int .i64 f3, .int .i64 f4, .int .i64 f5, .int .i64 pg] 47)) wr.heap.size 47 #[.int .i64 f0, .int .i64 sr, .string f2, .int .i64 f3, .int .i64 f4, .int .i64 f5, .int .i64 pg] := Blk.new _ _ _
        have hv2 := hv.on q2
        have hR2 := hR.on q2
        have hbW := blw hb q2
        by_cases hn : 0 < n0
        · rw [if_pos hn] at eY
          obtain ⟨r, RZ, rfl, er, eZ⟩ := List.map_eq_cons_iff.1 eY
          obtain ⟨g, t0⟩ := r
          obtain rfl : t0 = ⟨sr, n0, p0⟩ := er
          have hZr := map_mem_s eZ hZ
          have HZ : Hid (RZ.map (·.t) = Z) := eZ
          have hlr : RX.length < R.length := by rw [hRe]; simp
          have HB := Lib.hid (BSearch_Row A9 c9 R RX.length sr true (wr.alloc (.cells #[.int .i64 f0, .int .i64 sr, .string f2, .int .i64 f3, .int .i64 f4, .int .i64 f5, .int .i64 pg] 47)) (hv2.ls encSR_len) (fun r hr => (hR2.row r hr).2) (by omega) (by omega)
            (by rw [hRe]; exact split_lt hRX) (by rw [hRe]; exact split_ge (fun r hr => by rcases List.mem_cons.1 hr with rfl | hr; exact Int.le_refl _; exact Int.le_of_lt (hZr r hr))) (fun h => by simp [hRe]) (fun h => by omega))
          have HRe := Lib.hid hRe
          clear eY eZ hZ hZr hRX hz hRe
          go_wp2_with fail
          refine HB.out.mono ?_
          rintro e _ ⟨rfl, rfl⟩
          clear HB
          rw [HRe.out] at hR2
          have hRT := hR2
          have hvT : Vec (wr.alloc (.cells #[.int .i64 f0, .int .i64 sr, .string f2, .int .i64 f3, .int .i64 f4, .int .i64 f5, .int .i64 pg] 47)) w.heap.size 37 encSR 1 (.slice A9 R.length c9) (RX ++ ⟨g, ⟨sr, n0, p0⟩⟩ :: RZ) := by rw [← HRe.out]; exact hv2
          have HnT := Lib.hid (show R.length = (RX ++ (⟨g, ⟨sr, n0 + 1, p0 + pg⟩⟩ : SRow) :: RZ).length by rw [HRe.out]; simp)
          generalize R.length = nT at *
          have fb6 : (wr.alloc (.cells #[.int .i64 f0, .int .i64 sr, .string f2, .int .i64 f3, .int .i64 f4, .int .i64 f5, .int .i64 pg] 47)).cell? ⟨wr.heap.size, 6, none⟩ = some (.int .i64 pg) := hbx.cell 6
          have hFl := hbx.lt
          have hgl : g < wr.heap.size := (hR.row (⟨g, ⟨sr, n0, p0⟩⟩ : SRow) (by rw [HRe.out]; simp)).2.lt
          have hFg : wr.heap.size ≠ g := by omega
          clear hv hv2 hR hR2 hbx q2 hb HRe
          generalize (wr.alloc (.cells #[.int .i64 f0, .int .i64 sr, .string f2, .int .i64 f3, .int .i64 f4, .int .i64 f5, .int .i64 pg] 47)) = w2 at *
          generalize hF : wr.heap.size = F at *
          generalize c9 = cT at *
          generalize A9 = AT at *
          obtain ⟨bA, oA, rfl, ltA, cA⟩ := (hvT.ls encSR_len).at_SR (k := RX.length) (by simp)
          have hget : (RX ++ (⟨g, ⟨sr, n0, p0⟩⟩ : SRow) :: RZ)[RX.length]'(by simp) = ⟨g, ⟨sr, n0, p0⟩⟩ := by simp
          rw [hget] at cA
          clear hget
          have hG : Blk w2 g 3 (triC ⟨sr, n0, p0⟩) := (hRT.row (⟨g, ⟨sr, n0, p0⟩⟩ : SRow) (by simp)).2
          have hGb : w.heap.size ≤ g := (hRT.row (⟨g, ⟨sr, n0, p0⟩⟩ : SRow) (by simp)).1
          have hneA : bA ≠ g := fun e => hvT.ne_of hG (by decide) ⟨oA, by rw [e]⟩
          have e1 : w2.cell? ⟨g, 1, none⟩ = some (.int .i64 n0) := hG.cell 1
          have f1 := hG.frozen 1
          have ip0 : (0 : Int) ≤ (RX.length : Int) := by omega
          have ip1 : (RX.length : Int) < (nT : Int) := by omega
          go_wp2_with fail
          have hw5 : Wr (fun q => q = g) w2 (w2.setCell ⟨g, 1, none⟩ (.int .i64 (n0 + 1))) := Wr.setCell (p := ⟨g, 1, none⟩) (Wr.refl (fun q => q = g) w2) (.inl rfl) _
          have hG5 : Blk (w2.setCell ⟨g, 1, none⟩ (.int .i64 (n0 + 1))) g 3 (triC ⟨sr, n0 + 1, p0⟩) := by
            have h := hG.set_ 1 (.int .i64 (n0 + 1))
            simpa [triC] using h
          have hR5 := hRT.upd hw5 hG5
          have hv5 := hvT.wr_b hw5 (fun k hk h => hvT.ne_of hG (by decide) (by rw [← h]; exact hk))
          have cA5 := (hw5.cell (k := bA) (o := oA + RX.length) ltA hneA).trans cA
          have fb6' := (hw5.cell (k := F) (o := 6) hFl hFg).trans fb6
          have hb5 := hbW.trans (hw5.below hbW.size (fun k hk => by omega))
          clear hw5 e1 f1 cA fb6 hvT hRT hG hbW ltA hFl
          generalize (w2.setCell ⟨g, 1, none⟩ (.int .i64 (n0 + 1))) = w5 at *
          have e2 : w5.cell? ⟨g, 2, none⟩ = some (.int .i64 p0) := hG5.cell 2
          have f2 := hG5.frozen 2
          go_region
          all_goals
            go_wp2_with fail
            go_roundw
            case rel =>
              have hw6 : Wr (fun q => q = g) w5 (w5.drew.setCell ⟨g, 2, none⟩ (.int .i64 (p0 + pg))) := Wr.setCell (p := ⟨g, 2, none⟩) (Wr.drew (Wr.refl (fun q => q = g) w5)) (.inl rfl) _
              have hG6 : Blk (w5.drew.setCell ⟨g, 2, none⟩ (.int .i64 (p0 + pg))) g 3 (triC ⟨sr, n0 + 1, p0 + pg⟩) := by
                have h := Blk.set_ (w := w5.drew) hG5 2 (.int .i64 (p0 + pg))
                simpa [triC] using h
              refine ⟨k + 1, _, cT, RX ++ ⟨g, ⟨sr, n0 + 1, p0 + pg⟩⟩ :: RZ, by omega, by go_num, by rw [HnT.out], hb5.trans (hw6.below hb5.size (fun k hk => by omega)), ?_, hR5.upd hw6 hG6, ?_⟩
              · rw [← HnT.out]
                exact Vec.retag (hv5.wr_b hw6 (fun k hk h => hv5.ne_of hG5 (by decide) (by rw [← h]; exact hk))) (by simp [encSR]) (by simp)
              · show List.map _ _ = _
                rw [List.map_append, List.map_cons, HX.out, HZ.out]
                exact HS.out
            case measure => simp [intOf]; omega
        · rw [if_neg hn] at eY
          obtain ⟨hn0, hp0⟩ := hz hn
          obtain ⟨RZ, hRZ⟩ : ∃ z, z = RY := ⟨_, rfl⟩
          subst hRZ
          have HZ : Hid (RZ.map (·.t) = Z) := eY
          have hZr := map_mem_s (show RZ.map (·.t) = Z from eY) hZ
          have hlr : RX.length ≤ R.length := by rw [hRe]; simp
          have HB := Lib.hid (BSearch_Row A9 c9 R RX.length sr false (wr.alloc (.cells #[.int .i64 f0, .int .i64 sr, .string f2, .int .i64 f3, .int .i64 f4, .int .i64 f5, .int .i64 pg] 47)) (hv2.ls encSR_len) (fun r hr => (hR2.row r hr).2) (by omega) (by omega)
            (by rw [hRe]; exact split_lt hRX) (by rw [hRe]; exact split_ge (fun r hr => Int.le_of_lt (hZr r hr))) (by rw [hRe]; exact split_ne hZr) (fun _ => rfl))
          have HRe := Lib.hid hRe
          have HN := Lib.hid hn0
          have HP := Lib.hid hp0
          clear eY hZ hZr hRX hz hRe hn0 hp0 hn
          go_wp2_with fail
          refine HB.out.mono ?_
          rintro e _ ⟨rfl, rfl⟩
          clear HB
          have fb1 : (wr.alloc (.cells #[.int .i64 f0, .int .i64 sr, .string f2, .int .i64 f3, .int .i64 f4, .int .i64 f5, .int .i64 pg] 47)).cell? ⟨wr.heap.size, 1, none⟩ = some (.int .i64 sr) := hbx.cell 1
          have hFl := hbx.lt
          clear hv hR q2 hb
          generalize (wr.alloc (.cells #[.int .i64 f0, .int .i64 sr, .string f2, .int .i64 f3, .int .i64 f4, .int .i64 f5, .int .i64 pg] 47)) = w2 at *
          generalize hF : wr.heap.size = F at *
          have hbA : ∀ b, blkOf A9 b → b < w2.heap.size := fun b hb => (hv2.block hb).2
          have hRlt : ∀ r ∈ R, r.g < w2.heap.size := fun r hr => hR2.lt hr
          go_wp2_with fail
          change Calls Tryd.prog 30 _ ((w2.alloc (.cells #[.int .i64 sr, .int .i64 0, .int .i64 0] 3)).alloc (.cells #[.slice (some ⟨w2.heap.size, 0, none⟩) 3 3] 37)) _
          have q3 : Below w2.heap.size w2 ((w2.alloc (.cells #[.int .i64 sr, .int .i64 0, .int .i64 0] 3)).alloc (.cells #[.slice (some ⟨w2.heap.size, 0, none⟩) 3 3] 37)) := blw_alloc (blw_alloc (Below.refl _ _) _) _
          have hg3 : Blk ((w2.alloc (.cells #[.int .i64 sr, .int .i64 0, .int .i64 0] 3)).alloc (.cells #[.slice (some ⟨w2.heap.size, 0, none⟩) 3 3] 37)) w2.heap.size 3 (triC ⟨sr, 0, 0⟩) := (Blk.new w2 3 (triC ⟨sr, 0, 0⟩)).alloc _
          have hx3 : Blk ((w2.alloc (.cells #[.int .i64 sr, .int .i64 0, .int .i64 0] 3)).alloc (.cells #[.slice (some ⟨w2.heap.size, 0, none⟩) 3 3] 37)) (w2.heap.size + 1) 37 (encSR ⟨w2.heap.size, ⟨sr, 0, 0⟩⟩).toArray := by
            have h := Blk.new (w2.alloc (.cells #[.int .i64 sr, .int .i64 0, .int .i64 0] 3)) 37 #[.slice (some ⟨w2.heap.size, 0, none⟩) 3 3]
            rw [World.size_alloc] at h
            exact h
          have hv3 := hv2.on q3
          have hR3 := hR2.on q3
          have hbW3 := blw hbW q3
          have hbx3 := hbx.below q3 hFl
          have hs3 : ((w2.alloc (.cells #[.int .i64 sr, .int .i64 0, .int .i64 0] 3)).alloc (.cells #[.slice (some ⟨w2.heap.size, 0, none⟩) 3 3] 37)).heap.size = w2.heap.size + 2 := by simp
          clear q3 fb1 hbx
          generalize ((w2.alloc (.cells #[.int .i64 sr, .int .i64 0, .int .i64 0] 3)).alloc (.cells #[.slice (some ⟨w2.heap.size, 0, none⟩) 3 3] 37)) = w3 at *
          generalize hG0 : w2.heap.size = g at *
          refine (Insert_SRow A9 c9 w.heap.size (g + 1) RX.length R ⟨g, ⟨sr, 0, 0⟩⟩ w3 hv3 hx3 (fun h => by have := hbA _ h; omega) (by omega) hlr hbW3.size).mono ?_
          rintro e w4 ⟨A4, c4, rfl, hv4, hw4⟩
          have hR4 := hR3.wr_ne hw4 (fun r hr h => hv3.ne_of (hR3.row r hr).2 (by decide) h)
          have hg4 : Blk w4 g 3 (triC ⟨sr, n0, p0⟩) := by rw [HN.out, HP.out]; exact hg3.wr hw4 (fun h => by have := hbA _ h; omega)
          have hgw : w.heap.size ≤ g := Nat.le_trans hbW.size (Nat.le_of_eq hG0)
          have hRT : RowsAt w4 w.heap.size (RX ++ ⟨g, ⟨sr, n0, p0⟩⟩ :: RZ) := by
            rw [HRe.out] at hR4 hRlt
            exact hR4.ins hgw hg4 (fun r hr => Nat.ne_of_lt (hRlt r hr))
          have e1 : R.take RX.length = RX := by rw [HRe.out]; simp
          have e2 : R.drop RX.length = RZ := by rw [HRe.out]; simp
          rw [e1, e2] at hv4
          have hvT : Vec w4 w.heap.size 37 encSR 1 (.slice A4 (R.length + 1) c4) (RX ++ ⟨g, ⟨sr, n0, p0⟩⟩ :: RZ) := Vec.retag hv4 (by simp [encSR]) (by simp)
          have HnT := Lib.hid (show R.length + 1 = (RX ++ (⟨g, ⟨sr, n0 + 1, p0 + pg⟩⟩ : SRow) :: RZ).length by rw [HRe.out]; simp; omega)
          have hbx4 := hbx3.wr hw4 (fun h => hv3.ne_of hbx3 (by decide) h)
          have fb6 : w4.cell? ⟨F, 6, none⟩ = some (.int .i64 pg) := hbx4.cell 6
          have hFg : F ≠ g := by omega
          replace hbW := hbW3.trans (hw4.below hbW3.size (fun k hk => (hv3.block hk).1))
          replace hFl := hbx4.lt
          have hRn : RX.length < R.length + 1 := by omega
          have hR100 : R.length + 1 ≤ 100 := by omega
          clear e1 e2 hv2 hv3 hv4 hR2 hR3 hR4 hRlt hbA hg3 hg4 hx3 hbx3 hbx4 hw4 hs3 hbW3 HRe HN HP hR99 hlr
          generalize R.length + 1 = nT at *
          generalize c4 = cT at *
          generalize A4 = AT at *
          obtain ⟨bA, oA, rfl, ltA, cA⟩ := (hvT.ls encSR_len).at_SR (k := RX.length) (by simp)
          have hget : (RX ++ (⟨g, ⟨sr, n0, p0⟩⟩ : SRow) :: RZ)[RX.length]'(by simp) = ⟨g, ⟨sr, n0, p0⟩⟩ := by simp
          rw [hget] at cA
          clear hget
          have hG : Blk w4 g 3 (triC ⟨sr, n0, p0⟩) := (hRT.row (⟨g, ⟨sr, n0, p0⟩⟩ : SRow) (by simp)).2
          have hGb : w.heap.size ≤ g := (hRT.row (⟨g, ⟨sr, n0, p0⟩⟩ : SRow) (by simp)).1
          have hneA : bA ≠ g := fun e => hvT.ne_of hG (by decide) ⟨oA, by rw [e]⟩
          have e1 : w4.cell? ⟨g, 1, none⟩ = some (.int .i64 n0) := hG.cell 1
          have f1 := hG.frozen 1
          have ip0 : (0 : Int) ≤ (RX.length : Int) := by omega
          have ip1 : (RX.length : Int) < (nT : Int) := by omega
          go_wp2_with fail
          have hw5 : Wr (fun q => q = g) w4 (w4.setCell ⟨g, 1, none⟩ (.int .i64 (n0 + 1))) := Wr.setCell (p := ⟨g, 1, none⟩) (Wr.refl (fun q => q = g) w4) (.inl rfl) _
          have hG5 : Blk (w4.setCell ⟨g, 1, none⟩ (.int .i64 (n0 + 1))) g 3 (triC ⟨sr, n0 + 1, p0⟩) := by
            have h := hG.set_ 1 (.int .i64 (n0 + 1))
            simpa [triC] using h
          have hR5 := hRT.upd hw5 hG5
          have hv5 := hvT.wr_b hw5 (fun k hk h => hvT.ne_of hG (by decide) (by rw [← h]; exact hk))
          have cA5 := (hw5.cell (k := bA) (o := oA + RX.length) ltA hneA).trans cA
          have fb6' := (hw5.cell (k := F) (o := 6) hFl hFg).trans fb6
          have hb5 := hbW.trans (hw5.below hbW.size (fun k hk => by omega))
          clear hw5 e1 f1 cA fb6 hvT hRT hG hbW ltA hFl
          generalize (w4.setCell ⟨g, 1, none⟩ (.int .i64 (n0 + 1))) = w5 at *
          have e2 : w5.cell? ⟨g, 2, none⟩ = some (.int .i64 p0) := hG5.cell 2
          have f2 := hG5.frozen 2
          go_region
          all_goals
            go_wp2_with fail
            go_roundw
            case rel =>
              have hw6 : Wr (fun q => q = g) w5 (w5.drew.setCell ⟨g, 2, none⟩ (.int .i64 (p0 + pg))) := Wr.setCell (p := ⟨g, 2, none⟩) (Wr.drew (Wr.refl (fun q => q = g) w5)) (.inl rfl) _
              have hG6 : Blk (w5.drew.setCell ⟨g, 2, none⟩ (.int .i64 (p0 + pg))) g 3 (triC ⟨sr, n0 + 1, p0 + pg⟩) := by
                have h := Blk.set_ (w := w5.drew) hG5 2 (.int .i64 (p0 + pg))
                simpa [triC] using h
              refine ⟨k + 1, _, cT, RX ++ ⟨g, ⟨sr, n0 + 1, p0 + pg⟩⟩ :: RZ, by omega, by go_num, by rw [HnT.out], hb5.trans (hw6.below hb5.size (fun k hk => by omega)), ?_, hR5.upd hw6 hG6, ?_⟩
              · rw [← HnT.out]
                exact Vec.retag (hv5.wr_b hw6 (fun k hk h => hv5.ne_of hG5 (by decide) (by rw [← h]; exact hk))) (by simp [encSR]) (by simp)
              · show List.map _ _ = _
                rw [List.map_append, List.map_cons, HX.out, HZ.out]
                exact HS.out
            case measure => simp [intOf]; omega
      · have hkk : k = l.length := by omega
        subst hkk
        have Hm := Lib.hid (show R.map (·.t) = serL l by rw [Hv.out, hM.out, List.take_length])
        go_wp2_with fail
        go_ret2
        exact ⟨A9, c9, R, rfl, hv, hR, Hm.out, hb⟩

end Go.Proofs.YtlhihdcdbclcbaaDoor
