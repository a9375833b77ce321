/- Contracts: ParseRecord of the reference. -/
import Derived.Test.YtopfcfedcmpamaaDoorW7c
import Derived.Test.YtopfcfedcmpamaaDoorW1s
import Derived.Test.YtopfcfedcmpamaaDoorW1r
import Derived.Test.YtopfcfedcmpamaaDoorHStr
import Derived.Test.YtopfcfedcmpamaaDoorW2t
namespace Go.Proofs.YtopfcfedcmpamaaDoor
set_option linter.unusedVariables false
set_option linter.unusedSimpArgs false
open Go.RowKit
attribute [local go_sem] Aft.cell

theorem okq_no {s : ByteArray} (h : okQ s = false) : okQ s = false ∧ keepE (okQ s) (qEvs s) = [] := ⟨h, by simp [keepE, h]⟩
theorem shp_no {s : ByteArray} (h : shpB s = false) : okQ s = false ∧ keepE (okQ s) (qEvs s) = [] := okq_no (by unfold okQ; rw [h]; rfl)
theorem shp80 {s : ByteArray} (h : 80 < s.size) : shpB s = false := by
  have h1 : decide (s.size ≤ 80) = false := by simp; omega
  unfold shpB; rw [h1]; rfl
theorem shp2 {s : ByteArray} (h : ¬ ((hdW s).length = 2 ∧ (nmW s).length = 2)) : shpB s = false := by
  have h1 : (decide ((hdW s).length = 2) && decide ((nmW s).length = 2)) = false := by
    cases hb : (decide ((hdW s).length = 2) && decide ((nmW s).length = 2))
    · rfl
    · simp at hb; exact absurd hb h
  unfold shpB; rw [h1]; simp
theorem shp3 {s : ByteArray} (i : Nat) (hi : i + 1 < (partsA 32 s).length) (h : ¬ (partsA 64 (partsA 32 s)[i + 1]).length = 2) : shpB s = false := by
  have h1 : ((partsA 32 s).drop 1).all twoB = false := by
    rw [List.all_eq_false]
    refine ⟨(partsA 32 s)[i + 1], List.mem_iff_getElem.2 ⟨i, by rw [List.length_drop]; omega, by rw [List.getElem_drop]; congr 1; omega⟩, by unfold twoB; simp [h]⟩
  unfold shpB; rw [h1, Bool.and_false]
theorem shp_yes {s : ByteArray} (h1 : ¬ 80 < s.size) (h2 : (hdW s).length = 2 ∧ (nmW s).length = 2) (h3 : ∀ i (hi : i + 1 < (partsA 32 s).length), (partsA 64 (partsA 32 s)[i + 1]).length = 2) : shpB s = true := by
  have e : ((partsA 32 s).drop 1).all twoB = true := by
    rw [List.all_eq_true]
    intro x hx
    obtain ⟨i, hi, rfl⟩ := List.mem_iff_getElem.1 hx
    rw [List.length_drop] at hi
    rw [List.getElem_drop]
    unfold twoB
    have := h3 i (by omega)
    simp only [Nat.add_comm 1 i]
    simp [this]
  unfold shpB
  rw [e, h2.1, h2.2]
  simp; omega
theorem okq_bad {s : ByteArray} (h : recB (qId s) (qSer s) (qMade s) (qEvs s) = false ∨ ¬ recTx (qId s) (qSer s) (qMade s) (qEvs s) = s) : okQ s = false ∧ keepE (okQ s) (qEvs s) = [] := okq_no (by
  unfold okQ
  rcases h with h | h <;> simp [h])
theorem okq_yes {s : ByteArray} (h0 : shpB s = true) (h : recB (qId s) (qSer s) (qMade s) (qEvs s) = true) (h2 : recTx (qId s) (qSer s) (qMade s) (qEvs s) = s) : okQ s = true ∧ keepE (okQ s) (qEvs s) = qEvs s := by
  have h1 : okQ s = true := by
    unfold okQ
    rw [h0, h, h2]
    simp
  exact ⟨h1, by simp [keepE, h1]⟩
/-- the events of the first k words -/
def evK (W : List ByteArray) (k : Nat) : List Ev := ((W.drop 1).take k).map evR
theorem evK_len {W : List ByteArray} {k : Nat} (h : k < W.length) : (evK W k).length = k := by unfold evK; rw [List.length_map, List.length_take, List.length_drop]; omega
theorem evK_succ {W : List ByteArray} {k : Nat} (h : k + 1 < W.length) : evK W (k + 1) = evK W k ++ [evR W[k + 1]] := by
  unfold evK
  rw [List.take_succ_eq_append_getElem (by rw [List.length_drop]; omega), List.map_append, List.getElem_drop]
  simp only [Nat.add_comm 1 k]
  rfl
theorem evK_end {s : ByteArray} {k : Nat} (h : k + 1 = (partsA 32 s).length) : evK (partsA 32 s) k = qEvs s := by
  unfold evK qEvs
  rw [List.take_of_length_le (by rw [List.length_drop]; omega)]
theorem parts_pos (b : UInt8) (s : ByteArray) : 0 < (partsA b s).length := by
  by_cases h : b ∈ s.data.toList
  · unfold partsA; rw [List.length_map, split_idxOf h, partsL_hit _ take_idxOf_notin]; simp
  · unfold partsA; rw [List.length_map, partsL_none h]; simp
theorem headD_get {l : List ByteArray} (h : 0 < l.length) (d : ByteArray) : l.headD d = l[0] := by
  cases l with
  | nil => simp at h
  | cons x l => rfl
theorem getD_get {l : List ByteArray} {i : Nat} (h : i < l.length) (d : ByteArray) : l.getD i d = l[i] := by simp [List.getD_eq_getElem?_getD, h]
theorem Vec.wr_b {α : Type} {S : Nat → Prop} {w w' : World} {base sz n c : Nat} {t : TypeId} {en : α → List Value} {A : Option Addr} {l : List α} (h : Vec w base t en sz (.slice A n c) l) (hw : Wr S w w') (hn : ∀ k, blkOf A k → ¬ S k) : Vec w' base t en sz (.slice A n c) l := by
  refine h.wr hw (fun k hk => hn k ?_)
  rcases h.2 with ⟨h2, _⟩ | ⟨g, cap, cur, h1, _⟩
  · simp at h2
    obtain ⟨rfl, _⟩ := h2
    simp [Value.ownBlock] at hk
  · simp at h1
    obtain ⟨rfl, _⟩ := h1
    simp [Value.ownBlock] at hk
    subst hk
    exact ⟨0, rfl⟩

set_option maxRecDepth 100000 in
set_option maxHeartbeats 4000000 in
theorem c_spec_ParseRecordQ (s : ByteArray) (w : World) (hs : s.size ≤ 1048576) :
    Calls Tryd.prog 6 #[.string s] w (RetRB w (keepI (okQ s) (qId s)) (keepI (okQ s) (qSer s)) (keepI (okQ s) (qMade s)) (keepE (okQ s) (qEvs s)) (okQ s)) := by
  have hB0 := blw_alloc (Below.refl w.heap.size w) (.cells (cellsT 0 0 0 (.slice none 0 0)) 24)
  have hy0 : Blk (w.alloc (.cells (cellsT 0 0 0 (.slice none 0 0)) 24)) w.heap.size 24 (cellsT 0 0 0 (.slice none 0 0)) := Blk.new _ _ _
  by_cases h80 : 80 < s.size
  · have Hv := Lib.hid (shp_no (shp80 h80))
    have h80' : (80 : Int) < (s.size : Int) := by omega
    go_enter Tryd.func6, Tryd.ntmps6
    go_wp2_with fail
    have hy0' : Blk (w.alloc (.cells #[.int .i64 0, .int .i64 0, .int .i64 0, .slice none 0 0] 24)) w.heap.size 24 (cellsT 0 0 0 (.slice none 0 0)) := hy0
    have hB0' : Below w.heap.size w (w.alloc (.cells #[.int .i64 0, .int .i64 0, .int .i64 0, .slice none 0 0] 24)) := hB0
    clear hy0 hB0
    generalize (w.alloc (.cells #[.int .i64 0, .int .i64 0, .int .i64 0, .slice none 0 0] 24)) = wf at *
    obtain ⟨j0, j1, j2, j3, _, _, _, _, jl⟩ := hy0'.cellsT
    refine bodyPost_ret (v := .tuple #[.agg #[.int .i64 0, .int .i64 0, .int .i64 0, .slice none 0 0], .bool false]) (by simp [results, Tryd.results6, go_sem, jl, j0, j1, j2, j3]) rfl ⟨none, 0, ?_, ?_, hB0'⟩
    · rw [Hv.out.2, Hv.out.1]; rfl
    · rw [Hv.out.2]; exact Vec.nil
  · have h80' : ¬ (80 : Int) < (s.size : Int) := by omega
    have hWp := parts_pos 32 s
    have hWm := fun x (hx : x ∈ partsA 32 s) => partsA_mem hx
    obtain ⟨W, hW⟩ : ∃ W, W = partsA 32 s := ⟨_, rfl⟩
    rw [← hW] at hWp hWm
    obtain ⟨x, hx⟩ : ∃ x, x = W[0] := ⟨_, rfl⟩
    have hxz : x.size ≤ s.size := by rw [hx]; exact hWm _ (List.getElem_mem hWp)
    have hHp := parts_pos 64 x
    have hHm := fun y (hy : y ∈ partsA 64 x) => partsA_mem hy
    obtain ⟨H, hH⟩ : ∃ H, H = partsA 64 x := ⟨_, rfl⟩
    rw [← hH] at hHp hHm
    obtain ⟨y, hy⟩ : ∃ y, y = H[0] := ⟨_, rfl⟩
    have hyz : y.size ≤ s.size := by rw [hy]; exact Nat.le_trans (hHm _ (List.getElem_mem hHp)) hxz
    have hNp := parts_pos 115 y
    have hNm := fun z (hz : z ∈ partsA 115 y) => partsA_mem hz
    obtain ⟨N, hN⟩ : ∃ N, N = partsA 115 y := ⟨_, rfl⟩
    rw [← hN] at hNp hNm
    have hHe : hdW s = H := by unfold hdW; rw [← hW, headD_get hWp, ← hx, hH]
    have hNe : nmW s = N := by unfold nmW; rw [hHe, headD_get hHp, ← hy, hN]
    have HW := Lib.hid hW
    have HX := Lib.hid hx
    have HH := Lib.hid hH
    have HY := Lib.hid hy
    have HN := Lib.hid hN
    have HHe := Lib.hid hHe
    have HNe := Lib.hid hNe
    have Hhm := Lib.hid hHm
    have Hnm := Lib.hid hNm
    have Hwm := Lib.hid hWm
    clear hW hx hH hy hN hHe hNe hHm hNm hWm
    have iW : (0 : Int) < (W.length : Int) := by omega
    have iH : (0 : Int) < (H.length : Int) := by omega
    have iN : (0 : Int) < (N.length : Int) := by omega
    have hz0 : (w.alloc (.cells (cellsT 0 0 0 (.slice none 0 0)) 24)).heap.size = w.heap.size + 1 := by simp
    go_enter Tryd.func6, Tryd.ntmps6
    go_wp2_with fail
    change Calls Tryd.prog 20 _ (w.alloc (.cells (cellsT 0 0 0 (.slice none 0 0)) 24)) _
    generalize (w.alloc (.cells (cellsT 0 0 0 (.slice none 0 0)) 24)) = w0 at *
    change Calls Tryd.prog 20 #[.string s, .int .u8 (32 : UInt8).toNat] w0 _
    refine (l1Split_any s 32 w0 hs).mono ?_
    rintro e w1 ⟨A1, c1, rfl, hv1, q1⟩
    rw [← HW.out] at hv1
    simp only [← HW.out]
    have hB1 := blw hB0 q1
    have hy1 := hy0.below q1 hy0.lt
    have hl1 := hv1.ls encStr_len
    obtain ⟨bW, oW, rfl, ltW, cW⟩ := hl1.at_String hWp
    rw [← HX.out, Nat.add_zero] at cW
    go_wp2_with fail
    change Calls Tryd.prog 20 #[.string x, .int .u8 (64 : UInt8).toNat] w1 _
    refine (l1Split_any x 64 w1 (by omega)).mono ?_
    rintro e w2 ⟨A2, c2, rfl, hv2, q2⟩
    rw [← HH.out] at hv2
    simp only [← HH.out]
    have hB2 := blw hB1 q2
    have hy2 := hy1.below q2 hy1.lt
    have hl2 := hv2.ls encStr_len
    replace hl1 := (hl1.below q2).more q2.size
    obtain ⟨bH, oH, rfl, ltH, cH⟩ := hl2.at_String hHp
    rw [← HY.out, Nat.add_zero] at cH
    go_wp2_with fail
    change Calls Tryd.prog 20 #[.string y, .int .u8 (115 : UInt8).toNat] w2 _
    refine (l1Split_any y 115 w2 (by omega)).mono ?_
    rintro e w3 ⟨A3, c3, rfl, hv3, q3⟩
    rw [← HN.out] at hv3
    simp only [← HN.out]
    have hB3 := blw hB2 q3
    have hy3 := hy2.below q3 hy2.lt
    have hl3 := hv3.ls encStr_len
    replace hl1 := (hl1.below q3).more q3.size
    replace hl2 := (hl2.below q3).more q3.size
    clear cW cH hv1 hv2 hv3 q1 q2 q3 ltW ltH
    by_cases e2 : H.length = 2 ∧ N.length = 2
    · obtain ⟨e21, e22⟩ := e2
      have hlo := hy3.lt
      have r1 : (H.length : Int) = 2 := by omega
      have r2 : (N.length : Int) = 2 := by omega
      have iH1 : (1 : Int) < (H.length : Int) := by omega
      have iN1 : (1 : Int) < (N.length : Int) := by omega
      obtain ⟨n0, hn0⟩ : ∃ z, z = N[0] := ⟨_, rfl⟩
      obtain ⟨n1, hn1⟩ : ∃ z, z = N[1]'(by omega) := ⟨_, rfl⟩
      obtain ⟨h1, hh1⟩ : ∃ z, z = H[1]'(by omega) := ⟨_, rfl⟩
      have zn0 : n0.size ≤ s.size := by rw [hn0]; exact Nat.le_trans (Hnm.out _ (List.getElem_mem _)) hyz
      have zn1 : n1.size ≤ s.size := by rw [hn1]; exact Nat.le_trans (Hnm.out _ (List.getElem_mem _)) hyz
      have zh1 : h1.size ≤ s.size := by rw [hh1]; exact Nat.le_trans (Hhm.out _ (List.getElem_mem _)) hxz
      have ea : readI n0.data.toList = qId s := by unfold qId rdI; rw [HNe.out, getD_get hNp, hn0]
      have eb : readI n1.data.toList = qSer s := by unfold qSer rdI; rw [HNe.out, getD_get (by omega), hn1]
      have ec : readI h1.data.toList = qMade s := by unfold qMade rdI; rw [HHe.out, getD_get (by omega), hh1]
      have k1 : ∀ W', Calls Tryd.prog 21 #[.string n0] W' fun e w' => e = .returned (.tuple #[.int .i64 (qId s), .bool (readB n0.data.toList)]) ∧ Below W'.heap.size W' w' := fun W' => by rw [← ea]; exact l1Read_any n0 W' (by omega)
      have k2 : ∀ W', Calls Tryd.prog 21 #[.string n1] W' fun e w' => e = .returned (.tuple #[.int .i64 (qSer s), .bool (readB n1.data.toList)]) ∧ Below W'.heap.size W' w' := fun W' => by rw [← eb]; exact l1Read_any n1 W' (by omega)
      have k3 : ∀ W', Calls Tryd.prog 21 #[.string h1] W' fun e w' => e = .returned (.tuple #[.int .i64 (qMade s), .bool (readB h1.data.toList)]) ∧ Below W'.heap.size W' w' := fun W' => by rw [← ec]; exact l1Read_any h1 W' (by omega)
      clear ea eb ec
      obtain ⟨bH', oH', eH, ltH, cH1⟩ := hl2.at_String (show 1 < H.length by omega)
      cases eH
      obtain ⟨bN, oN, rfl, ltN, cN0⟩ := hl3.at_String hNp
      obtain ⟨bN', oN', eN, ltN', cN1⟩ := hl3.at_String (show 1 < N.length by omega)
      cases eN
      rw [← hn0, Nat.add_zero] at cN0
      rw [← hn1] at cN1
      rw [← hh1] at cH1
      clear hn0 hn1 hh1 ltN'
      go_wp2_with fail
      have hE4 : Vec ((w3.alloc (.cells #[] 46)).alloc (.cells #[.int .i64 0, .int .i64 0, .int .i64 0, .slice (some ⟨w3.heap.size, 0, none⟩) 0 0] 24)) w3.heap.size 46 encEv 2 (.slice (some ⟨w3.heap.size, 0, none⟩) 0 0) ([] : List Ev) := (Vec.empty w3 w3.heap.size 46 (Nat.le_refl _)).alloc _
      have hO4 : Blk ((w3.alloc (.cells #[] 46)).alloc (.cells #[.int .i64 0, .int .i64 0, .int .i64 0, .slice (some ⟨w3.heap.size, 0, none⟩) 0 0] 24)) (w3.heap.size + 1) 24 (cellsT 0 0 0 (.slice (some ⟨w3.heap.size, 0, none⟩) 0 0)) := by have h := Blk.new (w3.alloc (.cells #[] 46)) 24 #[.int .i64 0, .int .i64 0, .int .i64 0, .slice (some ⟨w3.heap.size, 0, none⟩) 0 0]; rw [World.size_alloc] at h; exact h
      have hb4 : Below w3.heap.size w3 ((w3.alloc (.cells #[] 46)).alloc (.cells #[.int .i64 0, .int .i64 0, .int .i64 0, .slice (some ⟨w3.heap.size, 0, none⟩) 0 0] 24)) := blw_alloc (blw_alloc (Below.refl _ _) _) _
      have hs4 : ((w3.alloc (.cells #[] 46)).alloc (.cells #[.int .i64 0, .int .i64 0, .int .i64 0, .slice (some ⟨w3.heap.size, 0, none⟩) 0 0] 24)).heap.size = w3.heap.size + 2 := by simp
      generalize ((w3.alloc (.cells #[] 46)).alloc (.cells #[.int .i64 0, .int .i64 0, .int .i64 0, .slice (some ⟨w3.heap.size, 0, none⟩) 0 0] 24)) = w4 at *
      generalize hG : w3.heap.size + 1 = G at *
      have cN0' := (hb4.cell (p := ⟨bN, oN, none⟩) ltN).trans cN0
      refine (k1 _).mono ?_
      rintro e v5 ⟨rfl, q5⟩
      have hb5 := hb4.trans (q5.mono hb4.size)
      have hE5 := hE4.on q5
      have hO5 := hO4.below q5 hO4.lt
      clear q5
      obtain ⟨x0, x1, x2, x3, f0, f1, f2, f3, xl⟩ := hO5.cellsT
      have cA := (hb5.cell (p := ⟨bN, oN + 1, none⟩) ltN).trans cN1
      have ltq := Nat.lt_of_lt_of_le ltN hb5.size
      go_wp2_with fail
      have hw5 : Wr (fun q => q = G) v5 (v5.setCell ⟨G, 0, none⟩ (.int .i64 (qId s))) := Wr.setCell (p := ⟨G, 0, none⟩) (Wr.refl (fun q => q = G) v5) (.inl rfl) _
      replace hb5 := hb5.trans (hw5.below hb5.size (fun k hk => by omega))
      replace hE5 := hE5.wr hw5 (fun k hk h => by simp [Value.ownBlock] at hk; omega)
      replace hO5 : Blk (v5.setCell ⟨G, 0, none⟩ (.int .i64 (qId s))) G 24 (cellsT (qId s) 0 0 (.slice (some ⟨w3.heap.size, 0, none⟩) 0 0)) := by
        have h := hO5.set_ 0 (.int .i64 (qId s))
        simpa [cellsT] using h
      clear hw5 x0 x1 x2 x3 f0 f1 f2 f3 xl
      generalize (v5.setCell ⟨G, 0, none⟩ (.int .i64 (qId s))) = w5 at *
      clear cA ltq
      refine (k2 _).mono ?_
      rintro e v6 ⟨rfl, q6⟩
      have hb6 := hb5.trans (q6.mono hb5.size)
      have hE6 := hE5.on q6
      have hO6 := hO5.below q6 hO5.lt
      clear q6
      obtain ⟨x0, x1, x2, x3, f0, f1, f2, f3, xl⟩ := hO6.cellsT
      have cA := (hb6.cell (p := ⟨bH, oH + 1, none⟩) ltH).trans cH1
      have ltq := Nat.lt_of_lt_of_le ltH hb6.size
      go_wp2_with fail
      have hw6 : Wr (fun q => q = G) v6 (v6.setCell ⟨G, 1, none⟩ (.int .i64 (qSer s))) := Wr.setCell (p := ⟨G, 1, none⟩) (Wr.refl (fun q => q = G) v6) (.inl rfl) _
      replace hb6 := hb6.trans (hw6.below hb6.size (fun k hk => by omega))
      replace hE6 := hE6.wr hw6 (fun k hk h => by simp [Value.ownBlock] at hk; omega)
      replace hO6 : Blk (v6.setCell ⟨G, 1, none⟩ (.int .i64 (qSer s))) G 24 (cellsT (qId s) (qSer s) 0 (.slice (some ⟨w3.heap.size, 0, none⟩) 0 0)) := by
        have h := hO6.set_ 1 (.int .i64 (qSer s))
        simpa [cellsT] using h
      clear hw6 x0 x1 x2 x3 f0 f1 f2 f3 xl
      generalize (v6.setCell ⟨G, 1, none⟩ (.int .i64 (qSer s))) = w6 at *
      clear cA ltq
      refine (k3 _).mono ?_
      rintro e v7 ⟨rfl, q7⟩
      have hb7 := hb6.trans (q7.mono hb6.size)
      have hE7 := hE6.on q7
      have hO7 := hO6.below q7 hO6.lt
      clear q7
      obtain ⟨x0, x1, x2, x3, f0, f1, f2, f3, xl⟩ := hO7.cellsT
      go_wp2_with fail
      have hw7 : Wr (fun q => q = G) v7 (v7.setCell ⟨G, 2, none⟩ (.int .i64 (qMade s))) := Wr.setCell (p := ⟨G, 2, none⟩) (Wr.refl (fun q => q = G) v7) (.inl rfl) _
      replace hb7 := hb7.trans (hw7.below hb7.size (fun k hk => by omega))
      replace hE7 := hE7.wr hw7 (fun k hk h => by simp [Value.ownBlock] at hk; omega)
      replace hO7 : Blk (v7.setCell ⟨G, 2, none⟩ (.int .i64 (qMade s))) G 24 (cellsT (qId s) (qSer s) (qMade s) (.slice (some ⟨w3.heap.size, 0, none⟩) 0 0)) := by
        have h := hO7.set_ 2 (.int .i64 (qMade s))
        simpa [cellsT] using h
      clear hw7 x0 x1 x2 x3 f0 f1 f2 f3 xl
      generalize (v7.setCell ⟨G, 2, none⟩ (.int .i64 (qMade s))) = w7 at *
      clear k1 k2 k3 cN0' cN0 cN1 cH1
      have hW81 : W.length ≤ 81 := by have := partsA_len 32 s; rw [← HW.out] at this; omega
      go_loopw [8] (fun i wr => ∃ (k : Nat) (A9 : Option Addr) (c9 : Nat), k + 1 ≤ W.length ∧ i = .int .i64 ((k : Int) + 1) ∧ Below w3.heap.size w3 wr ∧ Blk wr G 24 (cellsT (qId s) (qSer s) (qMade s) (.slice A9 (evK W k).length c9)) ∧ Vec wr w3.heap.size 46 encEv 2 (.slice A9 (evK W k).length c9) (evK W k) ∧ Hid (∀ i (hi : i + 1 < W.length), i < k → (partsA 64 W[i + 1]).length = 2)) (fun i _ => W.length - (intOf i).toNat)
      case atStart => exact ⟨0, _, 0, by omega, by go_num, hb7, hO7, hE7, fun i hi h => by omega⟩
      case round =>
        obtain ⟨k, A9, c9, hk, rfl, hb, hO, hv, hI⟩ := hrel
        replace hl1 := hl1.below hb
        replace hb7 := hb
        clear hb hO7 hE7
        have hB8 := hB3.trans (hb7.mono hB3.size)
        have hy8 := hy3.below hb7 hy3.lt
        have hg1 : (k : Int) + 1 < 9223372036854775807 := by omega
        by_cases hlt : k + 1 < W.length
        · obtain ⟨z, hz⟩ : ∃ z, z = W[k + 1] := ⟨_, rfl⟩
          have hzz : z.size ≤ s.size := by rw [hz]; exact Hwm.out _ (List.getElem_mem hlt)
          obtain ⟨bW', oW', eW, ltW, cW⟩ := hl1.at_String hlt
          cases eW
          rw [← hz] at cW
          have HZ := Lib.hid hz
          clear hz
          have hi0 : (0 : Int) ≤ (k : Int) + 1 := by omega
          have hi1 : (k : Int) + 1 < (W.length : Int) := by omega
          have hPp := parts_pos 64 z
          have hPm := Lib.hid (fun x (hx : x ∈ partsA 64 z) => partsA_mem hx)
          obtain ⟨P, hP⟩ : ∃ P, P = partsA 64 z := ⟨_, rfl⟩
          rw [← hP] at hPp hPm
          have HP := Lib.hid hP
          clear hP
          go_wp2_with fail
          change Calls Tryd.prog 20 #[.string z, .int .u8 (64 : UInt8).toNat] wr _
          refine (l1Split_any z 64 wr (by omega)).mono ?_
          rintro e v1 ⟨AP, cP, rfl, hvP, p1⟩
          rw [← HP.out] at hvP
          simp only [← HP.out]
          have hlP := hvP.ls encStr_len
          clear hvP
          replace hb7 := hb7.trans (p1.mono hb7.size)
          have hB9 := blw hB8 p1
          have hy9 := hy8.below p1 hy8.lt
          replace hO := hO.below p1 hO.lt
          replace hv := hv.on p1
          have hGs : G < v1.heap.size := hO.lt
          clear hy8 hB8 p1
          by_cases e3 : P.length = 2
          · have r3 : (P.length : Int) = 2 := by omega
            obtain ⟨p0, hp0⟩ : ∃ z, z = P[0] := ⟨_, rfl⟩
            obtain ⟨p1, hp1⟩ : ∃ z, z = P[1]'(by omega) := ⟨_, rfl⟩
            have zp0 : p0.size ≤ s.size := by rw [hp0]; exact Nat.le_trans (hPm.out _ (List.getElem_mem _)) hzz
            have zp1 : p1.size ≤ s.size := by rw [hp1]; exact Nat.le_trans (hPm.out _ (List.getElem_mem _)) hzz
            have ea : readI p0.data.toList = (evR z).1 := by show _ = readI ((partsA 64 z).getD 0 ⟨#[]⟩).data.toList; rw [← HP.out, getD_get (l := P) hPp, hp0]
            have eb : readI p1.data.toList = (evR z).2 := by show _ = readI ((partsA 64 z).getD 1 ⟨#[]⟩).data.toList; rw [← HP.out, getD_get (l := P) (by omega), hp1]
            have j1 : ∀ W', Calls Tryd.prog 21 #[.string p0] W' fun e w' => e = .returned (.tuple #[.int .i64 (evR z).1, .bool (readB p0.data.toList)]) ∧ Below W'.heap.size W' w' := fun W' => by rw [← ea]; exact l1Read_any p0 W' (by omega)
            have j2 : ∀ W', Calls Tryd.prog 21 #[.string p1] W' fun e w' => e = .returned (.tuple #[.int .i64 (evR z).2, .bool (readB p1.data.toList)]) ∧ Below W'.heap.size W' w' := fun W' => by rw [← eb]; exact l1Read_any p1 W' (by omega)
            clear ea eb
            obtain ⟨bP, oP, rfl, ltP, cP0⟩ := hlP.at_String hPp
            obtain ⟨bP', oP', eP, ltP', cP1⟩ := hlP.at_String (show 1 < P.length by omega)
            cases eP
            rw [← hp0, Nat.add_zero] at cP0
            rw [← hp1] at cP1
            clear hp0 hp1 ltP'
            have HE := Lib.hid (show evK W (k + 1) = evK W k ++ [evR z] by rw [evK_succ hlt, ← HZ.out])
            have hkl : (evK W k).length ≤ 81 := by have := evK_len (W := W) (k := k) (by omega); omega
            have HI2 := Lib.hid (show ∀ i (hi : i + 1 < W.length), i < k + 1 → (partsA 64 W[i + 1]).length = 2 from fun i hi h => by
              rcases Nat.lt_succ_iff_lt_or_eq.1 h with h | rfl
              · exact hI.out i hi h
              · rw [← HZ.out, ← HP.out]; exact e3)
            have hbA : ∀ b, blkOf A9 b → w3.heap.size ≤ b ∧ b < v1.heap.size := fun b hb => hv.block hb
            generalize evR z = ev at *
            go_wp2_with fail
            have hbe : Below v1.heap.size v1 (v1.alloc (.cells #[.int .i64 0, .int .i64 0] 46)) := blw_alloc (Below.refl _ _) _
            have hE1 : Blk (v1.alloc (.cells #[.int .i64 0, .int .i64 0] 46)) v1.heap.size 46 #[.int .i64 0, .int .i64 0] := Blk.new _ _ _
            generalize (v1.alloc (.cells #[.int .i64 0, .int .i64 0] 46)) = v2 at *
            refine (j1 _).mono ?_
            rintro e v3 ⟨rfl, q3⟩
            replace hbe := hbe.trans (q3.mono hbe.size)
            replace hE1 := hE1.below q3 hE1.lt
            have e0 := hE1.cell 0
            have e1 := hE1.cell 1
            have f0 := hE1.frozen 0
            clear q3
            have cP1' := (hbe.cell (p := ⟨bP, oP + 1, none⟩) ltP).trans cP1
            have ltP3 := Nat.lt_of_lt_of_le ltP hbe.size
            have hneP : bP ≠ v1.heap.size := by omega
            generalize hE : v1.heap.size = E at *
            go_wp2_with fail
            have hw3 : Wr (fun q => q = E) v3 (v3.setCell ⟨E, 0, none⟩ (.int .i64 ev.1)) := Wr.setCell (p := ⟨E, 0, none⟩) (Wr.refl (fun q => q = E) v3) (.inl rfl) _
            have hz3 := hbe.size
            replace hbe := hbe.trans (hw3.below (by omega) (fun k hk => by omega))
            replace hE1 : Blk (v3.setCell ⟨E, 0, none⟩ (.int .i64 ev.1)) E 46 #[.int .i64 ev.1, .int .i64 0] := by
              have h := hE1.set_ 0 (.int .i64 ev.1)
              simpa using h
            clear hw3 e0 e1 f0 cP1' ltP3
            generalize (v3.setCell ⟨E, 0, none⟩ (.int .i64 ev.1)) = v4 at *
            refine (j2 _).mono ?_
            rintro e v5 ⟨rfl, q5⟩
            dsimp only
            have hz4 := hbe.size
            replace hbe := hbe.trans (q5.mono (by omega))
            have hz5 := hbe.size
            replace hE1 := hE1.below q5 hE1.lt
            have e0 := hE1.cell 0
            have e1 := hE1.cell 1
            have f1 := hE1.frozen 1
            clear q5
            have hO5 := hO.below hbe (by omega)
            have hv5 := hv.below hbe (by omega)
            obtain ⟨x0, x1, x2, x3, g0, g1, g2, g3, xl⟩ := hO5.cellsT
            have hw5 : Wr (fun q => q = E) v5 (v5.setCell ⟨E, 1, none⟩ (.int .i64 ev.2)) := Wr.setCell (p := ⟨E, 1, none⟩) (Wr.refl (fun q => q = E) v5) (.inl rfl) _
            have hv6 := hv5.wr_b hw5 (fun k hk h => by have := hbA k hk; omega)
            have hO6 := hO5.wr hw5 (by omega)
            have hs6 : (v5.setCell ⟨E, 1, none⟩ (.int .i64 ev.2)).heap.size = v5.heap.size := by simp [World.setCell]
            replace hb7 := hb7.trans (hbe.mono (by omega))
            have hb8 := hb7.trans (hw5.below (B := w3.heap.size) (by omega) (fun k hk => by omega))
            have hF1 : (evK W k).length + [ev].length ≤ maxLen := by unfold maxLen; simp; omega
            have hF2 : ((evK W k).length + [ev].length) * 16 ≤ 140737488355328 := by simp; omega
            have hss := hb8.size
            go_wp2_with (at_builtin; refine wpList_app rfl (.tmp 93) (.tmp 95) 22 rfl 46 (.agg #[.int .i64 0, .int .i64 0]) 2 16 Tryd.underlying22 (by kernel_rfl) rfl (by omega) encEv_len one_ev A9 c9 (evK W k) rfl (hv6.alloc _) (some ⟨v5.heap.size, 0, none⟩) 1 (v5.heap.size + 1) [ev] rfl (Ls.one_at hs6 rfl) hF1 hF2 (by simp; omega) ?_; intro A2 c2 v7 hv7 hw7; have hO7 := (hO6.alloc (.cells #[.int .i64 ev.1, .int .i64 ev.2] 46)).wr hw7 (hv6.ne_of hO6 (by decide)); have y3 := hO7.cellsT.c3; have h3 := hO7.cellsT.f3)
            go_roundw
            case rel =>
              have hb9 := (hb8.trans ((blw_alloc (Below.refl _ _) (.cells #[.int .i64 ev.1, .int .i64 ev.2] 46)).mono hss)).trans (hw7.below (by simp; omega) (fun k hk => (hv6.block hk).1))
              have hw8 : Wr (fun q => q = G) v7 (v7.setCell ⟨G, 3, none⟩ (.slice A2 ((evK W k).length + 1) c2)) := Wr.setCell (p := ⟨G, 3, none⟩) (Wr.refl (fun q => q = G) v7) (.inl rfl) _
              have hO8 : Blk (v7.setCell ⟨G, 3, none⟩ (.slice A2 ((evK W k).length + 1) c2)) G 24 (cellsT (qId s) (qSer s) (qMade s) (.slice A2 ((evK W k).length + 1) c2)) := by
                have h := hO7.set_ 3 (.slice A2 ((evK W k).length + 1) c2)
                simpa [cellsT] using h
              refine ⟨k + 1, A2, c2, by omega, by go_num, hb9.trans (hw8.below hb9.size (fun k hk => by omega)), ?_, ?_, HI2.out⟩
              · rw [HE.out, List.length_append]; exact hO8
              · rw [HE.out, List.length_append]
                rw [List.length_append] at hv7
                exact hv7.wr_b hw8 (fun k hk h => hv7.ne_of hO7 (by decide) (by rw [← h]; exact hk))
            case measure => simp [intOf]; omega
          · have Hv := Lib.hid (shp_no (shp3 (s := s) k (by rw [← HW.out]; exact hlt) (by simp only [← HW.out]; rw [← HZ.out, ← HP.out]; exact e3)))
            have r3 : ((P.length : Int) != 2) = true := by simp; omega
            obtain ⟨y0, y1, y2, y3, g0, g1, g2, g3, yl⟩ := hy9.cellsT
            go_wp2_with fail
            have hwf : Wr (fun q => q = w.heap.size) v1 ((((v1.setCell ⟨w.heap.size, 0, none⟩ (.int .i64 0)).setCell ⟨w.heap.size, 1, none⟩ (.int .i64 0)).setCell ⟨w.heap.size, 2, none⟩ (.int .i64 0)).setCell ⟨w.heap.size, 3, none⟩ (.slice none 0 0)) := (Wr.setCell (p := ⟨w.heap.size, 3, none⟩) (Wr.setCell (p := ⟨w.heap.size, 2, none⟩) (Wr.setCell (p := ⟨w.heap.size, 1, none⟩) (Wr.setCell (p := ⟨w.heap.size, 0, none⟩) (Wr.refl (fun q => q = w.heap.size) v1) (.inl rfl) (.int .i64 0)) (.inl rfl) (.int .i64 0)) (.inl rfl) (.int .i64 0)) (.inl rfl) (.slice none 0 0))
            have hyf : Blk ((((v1.setCell ⟨w.heap.size, 0, none⟩ (.int .i64 0)).setCell ⟨w.heap.size, 1, none⟩ (.int .i64 0)).setCell ⟨w.heap.size, 2, none⟩ (.int .i64 0)).setCell ⟨w.heap.size, 3, none⟩ (.slice none 0 0)) w.heap.size 24 (cellsT 0 0 0 (.slice none 0 0)) := by
              have h := ((((hy9.set_ 0 (.int .i64 0)).set_ 1 (.int .i64 0)).set_ 2 (.int .i64 0)).set_ 3 (.slice none 0 0))
              simpa [cellsT] using h
            have hBf := hB9.trans (hwf.below hB9.size (fun k hk => Nat.le_of_eq hk.symm))
            clear hwf
            generalize ((((v1.setCell ⟨w.heap.size, 0, none⟩ (.int .i64 0)).setCell ⟨w.heap.size, 1, none⟩ (.int .i64 0)).setCell ⟨w.heap.size, 2, none⟩ (.int .i64 0)).setCell ⟨w.heap.size, 3, none⟩ (.slice none 0 0)) = wf at *
            obtain ⟨j0, j1, j2, j3, _, _, _, _, jl⟩ := hyf.cellsT
            refine bodyPost_ret (v := .tuple #[.agg #[.int .i64 0, .int .i64 0, .int .i64 0, .slice none 0 0], .bool false]) (by simp [results, Tryd.results6, go_sem, jl, j0, j1, j2, j3]) rfl ⟨none, 0, ?_, ?_, hBf⟩
            · rw [Hv.out.2, Hv.out.1]; rfl
            · rw [Hv.out.2]; exact Vec.nil
        · have hkk : k + 1 = W.length := by omega
          have hL : evK W k = qEvs s := by
            have h := evK_end (s := s) (k := k) (by rw [← HW.out]; exact hkk)
            rwa [← HW.out] at h
          have hshp : shpB s = true := shp_yes h80 (by rw [HHe.out, HNe.out]; exact ⟨e21, e22⟩) (fun i hi => by
            have h := hI.out i (by rw [HW.out]; exact hi) (by rw [← HW.out] at hi; omega)
            simp only [HW.out] at h
            exact h)
          have hkl : (evK W k).length ≤ 81 := by have := evK_len (W := W) (k := k) (by omega); omega
          have hi1 : ¬ (k : Int) + 1 < (W.length : Int) := by omega
          rw [hL] at hO hv hkl
          clear hL
          have hls := hv.ls encEv_len
          obtain ⟨x0, x1, x2, x3, f0, f1, f2, f3, xl⟩ := hO.cellsT
          cases h1 : recB (qId s) (qSer s) (qMade s) (qEvs s)
          · have Hv := Lib.hid (okq_bad (.inl h1))
            go_wp2_with fail
            refine (l2Record_any _ _ _ A9 c9 (qEvs s) _ hls (by omega)).mono ?_
            rw [h1]
            rintro e wa ⟨rfl, qa⟩
            have hBa := blw hB8 qa
            have hya := hy8.below qa hy8.lt
            have hOa := hO.below qa hO.lt
            have hva := hv.on qa
            have hlsa := hva.ls encEv_len
            clear x0 x1 x2 x3 f0 f1 f2 f3 xl qa
            obtain ⟨y0, y1, y2, y3, g0, g1, g2, g3, yl⟩ := hya.cellsT
            go_wp2_with fail
            have hwf : Wr (fun q => q = w.heap.size) wa ((((wa.setCell ⟨w.heap.size, 0, none⟩ (.int .i64 0)).setCell ⟨w.heap.size, 1, none⟩ (.int .i64 0)).setCell ⟨w.heap.size, 2, none⟩ (.int .i64 0)).setCell ⟨w.heap.size, 3, none⟩ (.slice none 0 0)) := (Wr.setCell (p := ⟨w.heap.size, 3, none⟩) (Wr.setCell (p := ⟨w.heap.size, 2, none⟩) (Wr.setCell (p := ⟨w.heap.size, 1, none⟩) (Wr.setCell (p := ⟨w.heap.size, 0, none⟩) (Wr.refl (fun q => q = w.heap.size) wa) (.inl rfl) (.int .i64 0)) (.inl rfl) (.int .i64 0)) (.inl rfl) (.int .i64 0)) (.inl rfl) (.slice none 0 0))
            have hyf : Blk ((((wa.setCell ⟨w.heap.size, 0, none⟩ (.int .i64 0)).setCell ⟨w.heap.size, 1, none⟩ (.int .i64 0)).setCell ⟨w.heap.size, 2, none⟩ (.int .i64 0)).setCell ⟨w.heap.size, 3, none⟩ (.slice none 0 0)) w.heap.size 24 (cellsT 0 0 0 (.slice none 0 0)) := by
              have h := ((((hya.set_ 0 (.int .i64 0)).set_ 1 (.int .i64 0)).set_ 2 (.int .i64 0)).set_ 3 (.slice none 0 0))
              simpa [cellsT] using h
            have hBf := hBa.trans (hwf.below hBa.size (fun k hk => Nat.le_of_eq hk.symm))
            clear hwf
            generalize ((((wa.setCell ⟨w.heap.size, 0, none⟩ (.int .i64 0)).setCell ⟨w.heap.size, 1, none⟩ (.int .i64 0)).setCell ⟨w.heap.size, 2, none⟩ (.int .i64 0)).setCell ⟨w.heap.size, 3, none⟩ (.slice none 0 0)) = wf at *
            obtain ⟨j0, j1, j2, j3, _, _, _, _, jl⟩ := hyf.cellsT
            refine bodyPost_ret (v := .tuple #[.agg #[.int .i64 0, .int .i64 0, .int .i64 0, .slice none 0 0], .bool false]) (by simp [results, Tryd.results6, go_sem, jl, j0, j1, j2, j3]) rfl ⟨none, 0, ?_, ?_, hBf⟩
            · rw [Hv.out.2, Hv.out.1]; rfl
            · rw [Hv.out.2]; exact Vec.nil
          · by_cases h2 : recTx (qId s) (qSer s) (qMade s) (qEvs s) = s
            · have Hv := Lib.hid (okq_yes hshp h1 h2)
              have h3 : ((recTx (qId s) (qSer s) (qMade s) (qEvs s)).toList == s.toList) = true := by rw [h2]; simp
              clear h2
              go_wp2_with fail
              refine (l2Record_any _ _ _ A9 c9 (qEvs s) _ hls (by omega)).mono ?_
              rw [h1]
              rintro e wa ⟨rfl, qa⟩
              have hBa := blw hB8 qa
              have hya := hy8.below qa hy8.lt
              have hOa := hO.below qa hO.lt
              have hva := hv.on qa
              have hlsa := hva.ls encEv_len
              clear x0 x1 x2 x3 f0 f1 f2 f3 xl qa
              obtain ⟨x0, x1, x2, x3, f0, f1, f2, f3, xl⟩ := hOa.cellsT
              go_wp2_with fail
              refine (l2Text_any _ _ _ A9 c9 (qEvs s) _ hlsa h1).mono ?_
              rintro e wb ⟨rfl, qb⟩
              generalize recTx (qId s) (qSer s) (qMade s) (qEvs s) = tx at *
              have hBb := blw hBa qb
              have hyb := hya.below qb hya.lt
              have hOb := hOa.below qb hOa.lt
              have hvb := hva.on qb
              clear x0 x1 x2 x3 f0 f1 f2 f3 xl qb
              obtain ⟨x0, x1, x2, x3, f0, f1, f2, f3, xl⟩ := hOb.cellsT
              obtain ⟨y0, y1, y2, y3, g0, g1, g2, g3, yl⟩ := hyb.cellsT
              go_wp2_with fail
              have hwf : Wr (fun q => q = w.heap.size) wb ((((wb.setCell ⟨w.heap.size, 0, none⟩ (.int .i64 (qId s))).setCell ⟨w.heap.size, 1, none⟩ (.int .i64 (qSer s))).setCell ⟨w.heap.size, 2, none⟩ (.int .i64 (qMade s))).setCell ⟨w.heap.size, 3, none⟩ (.slice A9 (qEvs s).length c9)) := (Wr.setCell (p := ⟨w.heap.size, 3, none⟩) (Wr.setCell (p := ⟨w.heap.size, 2, none⟩) (Wr.setCell (p := ⟨w.heap.size, 1, none⟩) (Wr.setCell (p := ⟨w.heap.size, 0, none⟩) (Wr.refl (fun q => q = w.heap.size) wb) (.inl rfl) (.int .i64 (qId s))) (.inl rfl) (.int .i64 (qSer s))) (.inl rfl) (.int .i64 (qMade s))) (.inl rfl) (.slice A9 (qEvs s).length c9))
              have hyf : Blk ((((wb.setCell ⟨w.heap.size, 0, none⟩ (.int .i64 (qId s))).setCell ⟨w.heap.size, 1, none⟩ (.int .i64 (qSer s))).setCell ⟨w.heap.size, 2, none⟩ (.int .i64 (qMade s))).setCell ⟨w.heap.size, 3, none⟩ (.slice A9 (qEvs s).length c9)) w.heap.size 24 (cellsT (qId s) (qSer s) (qMade s) (.slice A9 (qEvs s).length c9)) := by
                have h := ((((hyb.set_ 0 (.int .i64 (qId s))).set_ 1 (.int .i64 (qSer s))).set_ 2 (.int .i64 (qMade s))).set_ 3 (.slice A9 (qEvs s).length c9))
                simpa [cellsT] using h
              have hBf := hBb.trans (hwf.below hBb.size (fun k hk => Nat.le_of_eq hk.symm))
              have hvf := hvb.wr_up hwf (fun k hk => by omega)
              clear hwf
              generalize ((((wb.setCell ⟨w.heap.size, 0, none⟩ (.int .i64 (qId s))).setCell ⟨w.heap.size, 1, none⟩ (.int .i64 (qSer s))).setCell ⟨w.heap.size, 2, none⟩ (.int .i64 (qMade s))).setCell ⟨w.heap.size, 3, none⟩ (.slice A9 (qEvs s).length c9)) = wf at *
              obtain ⟨j0, j1, j2, j3, _, _, _, _, jl⟩ := hyf.cellsT
              refine bodyPost_ret (v := .tuple #[.agg #[.int .i64 (qId s), .int .i64 (qSer s), .int .i64 (qMade s), .slice A9 (qEvs s).length c9], .bool true]) (by simp [results, Tryd.results6, go_sem, jl, j0, j1, j2, j3]) rfl ⟨A9, c9, ?_, ?_, hBf⟩
              · rw [Hv.out.2, Hv.out.1]; rfl
              · rw [Hv.out.2]; exact hvf.mono (by omega)
            · have Hv := Lib.hid (okq_bad (.inr h2))
              have h3 : ((recTx (qId s) (qSer s) (qMade s) (qEvs s)).toList == s.toList) = false := str_ne h2
              clear h2
              go_wp2_with fail
              refine (l2Record_any _ _ _ A9 c9 (qEvs s) _ hls (by omega)).mono ?_
              rw [h1]
              rintro e wa ⟨rfl, qa⟩
              have hBa := blw hB8 qa
              have hya := hy8.below qa hy8.lt
              have hOa := hO.below qa hO.lt
              have hva := hv.on qa
              have hlsa := hva.ls encEv_len
              clear x0 x1 x2 x3 f0 f1 f2 f3 xl qa
              obtain ⟨x0, x1, x2, x3, f0, f1, f2, f3, xl⟩ := hOa.cellsT
              go_wp2_with fail
              refine (l2Text_any _ _ _ A9 c9 (qEvs s) _ hlsa h1).mono ?_
              rintro e wb ⟨rfl, qb⟩
              generalize recTx (qId s) (qSer s) (qMade s) (qEvs s) = tx at *
              have hBb := blw hBa qb
              have hyb := hya.below qb hya.lt
              have hOb := hOa.below qb hOa.lt
              have hvb := hva.on qb
              clear x0 x1 x2 x3 f0 f1 f2 f3 xl qb
              obtain ⟨y0, y1, y2, y3, g0, g1, g2, g3, yl⟩ := hyb.cellsT
              go_wp2_with fail
              have hwf : Wr (fun q => q = w.heap.size) wb ((((wb.setCell ⟨w.heap.size, 0, none⟩ (.int .i64 0)).setCell ⟨w.heap.size, 1, none⟩ (.int .i64 0)).setCell ⟨w.heap.size, 2, none⟩ (.int .i64 0)).setCell ⟨w.heap.size, 3, none⟩ (.slice none 0 0)) := (Wr.setCell (p := ⟨w.heap.size, 3, none⟩) (Wr.setCell (p := ⟨w.heap.size, 2, none⟩) (Wr.setCell (p := ⟨w.heap.size, 1, none⟩) (Wr.setCell (p := ⟨w.heap.size, 0, none⟩) (Wr.refl (fun q => q = w.heap.size) wb) (.inl rfl) (.int .i64 0)) (.inl rfl) (.int .i64 0)) (.inl rfl) (.int .i64 0)) (.inl rfl) (.slice none 0 0))
              have hyf : Blk ((((wb.setCell ⟨w.heap.size, 0, none⟩ (.int .i64 0)).setCell ⟨w.heap.size, 1, none⟩ (.int .i64 0)).setCell ⟨w.heap.size, 2, none⟩ (.int .i64 0)).setCell ⟨w.heap.size, 3, none⟩ (.slice none 0 0)) w.heap.size 24 (cellsT 0 0 0 (.slice none 0 0)) := by
                have h := ((((hyb.set_ 0 (.int .i64 0)).set_ 1 (.int .i64 0)).set_ 2 (.int .i64 0)).set_ 3 (.slice none 0 0))
                simpa [cellsT] using h
              have hBf := hBb.trans (hwf.below hBb.size (fun k hk => Nat.le_of_eq hk.symm))
              clear hwf
              generalize ((((wb.setCell ⟨w.heap.size, 0, none⟩ (.int .i64 0)).setCell ⟨w.heap.size, 1, none⟩ (.int .i64 0)).setCell ⟨w.heap.size, 2, none⟩ (.int .i64 0)).setCell ⟨w.heap.size, 3, none⟩ (.slice none 0 0)) = wf at *
              obtain ⟨j0, j1, j2, j3, _, _, _, _, jl⟩ := hyf.cellsT
              refine bodyPost_ret (v := .tuple #[.agg #[.int .i64 0, .int .i64 0, .int .i64 0, .slice none 0 0], .bool false]) (by simp [results, Tryd.results6, go_sem, jl, j0, j1, j2, j3]) rfl ⟨none, 0, ?_, ?_, hBf⟩
              · rw [Hv.out.2, Hv.out.1]; rfl
              · rw [Hv.out.2]; exact Vec.nil
    · have Hv := Lib.hid (shp_no (shp2 (s := s) (by rw [HHe.out, HNe.out]; exact e2)))
      rcases (show ¬ (H.length : Int) = 2 ∨ ((H.length : Int) = 2 ∧ ¬ (N.length : Int) = 2) by
        by_cases h1 : H.length = 2
        · exact .inr ⟨by omega, fun h => e2 ⟨h1, by omega⟩⟩
        · exact .inl (by omega)) with r1 | ⟨r1, r2⟩
      · clear e2
        obtain ⟨y0, y1, y2, y3, g0, g1, g2, g3, yl⟩ := hy3.cellsT
        go_wp2_with fail
        have hwf : Wr (fun q => q = w.heap.size) w3 ((((w3.setCell ⟨w.heap.size, 0, none⟩ (.int .i64 0)).setCell ⟨w.heap.size, 1, none⟩ (.int .i64 0)).setCell ⟨w.heap.size, 2, none⟩ (.int .i64 0)).setCell ⟨w.heap.size, 3, none⟩ (.slice none 0 0)) := (Wr.setCell (p := ⟨w.heap.size, 3, none⟩) (Wr.setCell (p := ⟨w.heap.size, 2, none⟩) (Wr.setCell (p := ⟨w.heap.size, 1, none⟩) (Wr.setCell (p := ⟨w.heap.size, 0, none⟩) (Wr.refl (fun q => q = w.heap.size) w3) (.inl rfl) (.int .i64 0)) (.inl rfl) (.int .i64 0)) (.inl rfl) (.int .i64 0)) (.inl rfl) (.slice none 0 0))
        have hyf : Blk ((((w3.setCell ⟨w.heap.size, 0, none⟩ (.int .i64 0)).setCell ⟨w.heap.size, 1, none⟩ (.int .i64 0)).setCell ⟨w.heap.size, 2, none⟩ (.int .i64 0)).setCell ⟨w.heap.size, 3, none⟩ (.slice none 0 0)) w.heap.size 24 (cellsT 0 0 0 (.slice none 0 0)) := by
          have h := ((((hy3.set_ 0 (.int .i64 0)).set_ 1 (.int .i64 0)).set_ 2 (.int .i64 0)).set_ 3 (.slice none 0 0))
          simpa [cellsT] using h
        have hBf := hB3.trans (hwf.below hB3.size (fun k hk => Nat.le_of_eq hk.symm))
        clear hwf
        generalize ((((w3.setCell ⟨w.heap.size, 0, none⟩ (.int .i64 0)).setCell ⟨w.heap.size, 1, none⟩ (.int .i64 0)).setCell ⟨w.heap.size, 2, none⟩ (.int .i64 0)).setCell ⟨w.heap.size, 3, none⟩ (.slice none 0 0)) = wf at *
        obtain ⟨j0, j1, j2, j3, _, _, _, _, jl⟩ := hyf.cellsT
        refine bodyPost_ret (v := .tuple #[.agg #[.int .i64 0, .int .i64 0, .int .i64 0, .slice none 0 0], .bool false]) (by simp [results, Tryd.results6, go_sem, jl, j0, j1, j2, j3]) rfl ⟨none, 0, ?_, ?_, hBf⟩
        · rw [Hv.out.2, Hv.out.1]; rfl
        · rw [Hv.out.2]; exact Vec.nil
      · clear e2
        obtain ⟨y0, y1, y2, y3, g0, g1, g2, g3, yl⟩ := hy3.cellsT
        go_wp2_with fail
        have hwf : Wr (fun q => q = w.heap.size) w3 ((((w3.setCell ⟨w.heap.size, 0, none⟩ (.int .i64 0)).setCell ⟨w.heap.size, 1, none⟩ (.int .i64 0)).setCell ⟨w.heap.size, 2, none⟩ (.int .i64 0)).setCell ⟨w.heap.size, 3, none⟩ (.slice none 0 0)) := (Wr.setCell (p := ⟨w.heap.size, 3, none⟩) (Wr.setCell (p := ⟨w.heap.size, 2, none⟩) (Wr.setCell (p := ⟨w.heap.size, 1, none⟩) (Wr.setCell (p := ⟨w.heap.size, 0, none⟩) (Wr.refl (fun q => q = w.heap.size) w3) (.inl rfl) (.int .i64 0)) (.inl rfl) (.int .i64 0)) (.inl rfl) (.int .i64 0)) (.inl rfl) (.slice none 0 0))
        have hyf : Blk ((((w3.setCell ⟨w.heap.size, 0, none⟩ (.int .i64 0)).setCell ⟨w.heap.size, 1, none⟩ (.int .i64 0)).setCell ⟨w.heap.size, 2, none⟩ (.int .i64 0)).setCell ⟨w.heap.size, 3, none⟩ (.slice none 0 0)) w.heap.size 24 (cellsT 0 0 0 (.slice none 0 0)) := by
          have h := ((((hy3.set_ 0 (.int .i64 0)).set_ 1 (.int .i64 0)).set_ 2 (.int .i64 0)).set_ 3 (.slice none 0 0))
          simpa [cellsT] using h
        have hBf := hB3.trans (hwf.below hB3.size (fun k hk => Nat.le_of_eq hk.symm))
        clear hwf
        generalize ((((w3.setCell ⟨w.heap.size, 0, none⟩ (.int .i64 0)).setCell ⟨w.heap.size, 1, none⟩ (.int .i64 0)).setCell ⟨w.heap.size, 2, none⟩ (.int .i64 0)).setCell ⟨w.heap.size, 3, none⟩ (.slice none 0 0)) = wf at *
        obtain ⟨j0, j1, j2, j3, _, _, _, _, jl⟩ := hyf.cellsT
        refine bodyPost_ret (v := .tuple #[.agg #[.int .i64 0, .int .i64 0, .int .i64 0, .slice none 0 0], .bool false]) (by simp [results, Tryd.results6, go_sem, jl, j0, j1, j2, j3]) rfl ⟨none, 0, ?_, ?_, hBf⟩
        · rw [Hv.out.2, Hv.out.1]; rfl
        · rw [Hv.out.2]; exact Vec.nil

theorem keep_same {α : Type} {f : Bool → α → α} {s : ByteArray} {x y : α} (h0 : f false x = f false y) (h : okR s = true → x = y) : f (okQ s) x = f (okR s) y := by
  rw [ok_eq]
  cases hk : okR s
  · exact h0
  · rw [h hk]
theorem keepI_f (x y : Int) : keepI false x = keepI false y := rfl
theorem keepE_f (x y : List Ev) : keepE false x = keepE false y := rfl
theorem c_spec_ParseRecord (s : ByteArray) (w : World) (hs : s.size ≤ 1048576) :
    Calls Tryd.prog 6 #[.string s] w (RetRB w (keepI (okR s) (pId s)) (keepI (okR s) (pSer s)) (keepI (okR s) (pMade s)) (keepE (okR s) (pEvs s)) (okR s)) := by
  have h := c_spec_ParseRecordQ s w hs
  rw [keep_same (f := keepI) (y := pId s) (keepI_f _ _) (fun h => (ok_same h).2.1), keep_same (f := keepI) (y := pSer s) (keepI_f _ _) (fun h => (ok_same h).2.2.1), keep_same (f := keepI) (y := pMade s) (keepI_f _ _) (fun h => (ok_same h).2.2.2.1), keep_same (f := keepE) (y := pEvs s) (keepE_f _ _) (fun h => (ok_same h).2.2.2.2), ok_eq] at h
  exact h

end Go.Proofs.YtopfcfedcmpamaaDoor
