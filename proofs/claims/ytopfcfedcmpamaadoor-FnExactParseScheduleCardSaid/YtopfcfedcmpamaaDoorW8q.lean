/- Contracts: ParseSchedule of the reference. -/
import Derived.Test.YtopfcfedcmpamaaDoorW7q
import Derived.Test.YtopfcfedcmpamaaDoorD8
import Derived.Test.YtopfcfedcmpamaaDoorW4u
namespace Go.Proofs.YtopfcfedcmpamaaDoor
set_option linter.unusedVariables false
set_option linter.unusedSimpArgs false
open Go.RowKit
attribute [local go_sem] Aft.cell

def ruleC (s e d a : Int) : Array Value := #[.int .i64 s, .int .i64 e, .int .i64 d, .int .i64 a]
structure RuleCs (w : World) (g : Nat) (s e d a : Int) : Prop where
  c0 : w.cell? ⟨g, 0, none⟩ = some (.int .i64 s)
  c1 : w.cell? ⟨g, 1, none⟩ = some (.int .i64 e)
  c2 : w.cell? ⟨g, 2, none⟩ = some (.int .i64 d)
  c3 : w.cell? ⟨g, 3, none⟩ = some (.int .i64 a)
  f0 : w.frozen? ⟨g, 0, none⟩ = false
  f1 : w.frozen? ⟨g, 1, none⟩ = false
  f2 : w.frozen? ⟨g, 2, none⟩ = false
  f3 : w.frozen? ⟨g, 3, none⟩ = false
  lt : g < w.heap.size
theorem Blk.ruleCs {w : World} {g : Nat} {t : TypeId} {s e d a : Int} (h : Blk w g t (ruleC s e d a)) : RuleCs w g s e d a :=
  ⟨h.cell 0, h.cell 1, h.cell 2, h.cell 3, h.frozen 0, h.frozen 1, h.frozen 2, h.frozen 3, h.lt⟩
theorem rulQ_zero {x : ByteArray} (h : x.size = 0) : rulQ x = ⟨0, 0, 0, 0⟩ := by unfold rulQ; rw [if_pos h]
theorem rulQ_bad {x : ByteArray} (h : ¬ ((wPlus x).length = 2 ∧ (wDot x).length = 2)) : rulQ x = ⟨0, 0, 0, 0⟩ := by
  have h1 : wFit x = false := by
    cases hb : wFit x
    · rfl
    · simp [wFit] at hb; exact absurd hb h
  unfold rulQ
  split
  · rfl
  · rw [h1]; rfl
theorem rulQ_fit {x : ByteArray} (h0 : ¬ x.size = 0) (h : (wPlus x).length = 2 ∧ (wDot x).length = 2) : rulQ x = ⟨rdI ((wDot x).getD 0 ⟨#[]⟩), rdI ((wDot x).getD 1 ⟨#[]⟩), rdI ((wPlus x).getD 1 ⟨#[]⟩), actQ (lastB x)⟩ := by
  have h1 : wFit x = true := by simp [wFit, h]
  unfold rulQ
  rw [if_neg h0, if_pos h1]
theorem lastB_at {x : ByteArray} {m : Nat} (h : x.size = m + 1) : lastB x = x[m]'(by omega) := by
  unfold lastB
  have h2 : x.data.toList.length = m + 1 := by rw [ba_len]; exact h
  rw [List.getLastD_eq_getLast?, List.getLast?_eq_getElem?, h2, Nat.add_sub_cancel, List.getElem?_eq_getElem (by omega), Option.getD_some, Array.getElem_toList]
  rfl
theorem act_cases (b : UInt8) : (b = 107 ∧ actQ b = 1) ∨ (b = 116 ∧ actQ b = 2) ∨ (b = 100 ∧ actQ b = 3) ∨ (((b.toNat : Int) == 107) = false ∧ ((b.toNat : Int) == 116) = false ∧ ((b.toNat : Int) == 100) = false ∧ actQ b = 0) := by
  by_cases h1 : b = 107
  · exact .inl ⟨h1, by simp [actQ, h1]⟩
  by_cases h2 : b = 116
  · exact .inr (.inl ⟨h2, by simp [actQ, h2]⟩)
  by_cases h3 : b = 100
  · exact .inr (.inr (.inl ⟨h3, by simp [actQ, h3]⟩))
  · have e : ∀ n : UInt8, ¬ b = n → ((b.toNat : Int) == (n.toNat : Int)) = false := fun n hn => by
      rw [beq_eq_false_iff_ne]
      intro h
      exact hn (UInt8.toNat_inj.1 (by omega))
    exact .inr (.inr (.inr ⟨e 107 h1, e 116 h2, e 100 h3, by simp [actQ, h1, h2, h3]⟩))

set_option maxRecDepth 100000 in
set_option maxHeartbeats 12000000 in
theorem l4Read_any (x : ByteArray) (w : World) (hx : x.size ≤ 1048576) :
    Calls Tryd.prog 32 #[.string x] w fun e w' => e = .returned (.agg #[.int .i64 (rulQ x).s, .int .i64 (rulQ x).e, .int .i64 (rulQ x).d, .int .i64 (rulQ x).a]) ∧ Below w.heap.size w w' := by
  by_cases h0 : x.size = 0
  · have Hq := Lib.hid (rulQ_zero h0)
    have hB0 : Below w.heap.size w ((w.alloc (.cells #[.int .i64 0, .int .i64 0, .int .i64 0, .int .i64 0] 58)).alloc (.cells #[.int .i64 0, .int .i64 0, .int .i64 0, .int .i64 0] 58)) := blw_alloc (blw_alloc (Below.refl _ _) _) _
    have hy0 : Blk ((w.alloc (.cells #[.int .i64 0, .int .i64 0, .int .i64 0, .int .i64 0] 58)).alloc (.cells #[.int .i64 0, .int .i64 0, .int .i64 0, .int .i64 0] 58)) w.heap.size 58 (ruleC 0 0 0 0) := (Blk.new w 58 #[.int .i64 0, .int .i64 0, .int .i64 0, .int .i64 0]).alloc _
    go_enter Tryd.func32, Tryd.ntmps32
    go_wp2_with fail
    generalize ((w.alloc (.cells #[.int .i64 0, .int .i64 0, .int .i64 0, .int .i64 0] 58)).alloc (.cells #[.int .i64 0, .int .i64 0, .int .i64 0, .int .i64 0] 58)) = wf at *
    obtain ⟨j0, j1, j2, j3, _, _, _, _, jl⟩ := hy0.ruleCs
    exact bodyPost_ret (v := .agg #[.int .i64 0, .int .i64 0, .int .i64 0, .int .i64 0]) (by simp [results, Tryd.results32, go_sem, jl, j0, j1, j2, j3]) rfl ⟨by rw [Hq.out], hB0⟩
  · obtain ⟨m, hm⟩ : ∃ m, x.size = m + 1 := ⟨x.size - 1, by omega⟩
    obtain ⟨b, hb⟩ : ∃ b, b = x[m]'(by omega) := ⟨_, rfl⟩
    have hlb : lastB x = b := by rw [lastB_at hm, hb]
    have hez : (x.extract 0 m).size ≤ x.size := by rw [ByteArray.size_extract]; omega
    have hPp := parts_pos 43 (x.extract 0 m)
    have hPm := fun z (hz : z ∈ partsA 43 (x.extract 0 m)) => partsA_mem hz
    obtain ⟨P, hP⟩ : ∃ P, P = partsA 43 (x.extract 0 m) := ⟨_, rfl⟩
    rw [← hP] at hPp hPm
    obtain ⟨y, hy⟩ : ∃ y, y = P[0] := ⟨_, rfl⟩
    have hyz : y.size ≤ x.size := by rw [hy]; exact Nat.le_trans (hPm _ (List.getElem_mem hPp)) hez
    have hNp := parts_pos 46 y
    have hNm := fun z (hz : z ∈ partsA 46 y) => partsA_mem hz
    obtain ⟨N, hN⟩ : ∃ N, N = partsA 46 y := ⟨_, rfl⟩
    rw [← hN] at hNp hNm
    have hPe : wPlus x = P := by unfold wPlus; rw [hm, Nat.add_sub_cancel, ← hP]
    have hNe : wDot x = N := by unfold wDot; rw [hPe, headD_get hPp, ← hy, hN]
    have HPe := Lib.hid hPe
    have HNe := Lib.hid hNe
    have HP := Lib.hid hP
    have HY := Lib.hid hy
    have HN := Lib.hid hN
    have Hpm := Lib.hid hPm
    have Hnm := Lib.hid hNm
    have Hlb := Lib.hid hlb
    clear hP hy hN hPe hNe hPm hNm hlb
    have iP : (0 : Int) < (P.length : Int) := by omega
    have iN : (0 : Int) < (N.length : Int) := by omega
    have hm0 : ¬ (m : Int) + 1 = 0 := by omega
    have hxm : x[m]'(by omega) = b := hb.symm
    clear hb
    rcases act_cases b with ⟨h1, ha⟩ | ⟨h1, ha⟩ | ⟨h1, ha⟩ | ⟨h1, h2, h3, ha⟩
    · have hB0 : Below w.heap.size w ((w.alloc (.cells #[.int .i64 0, .int .i64 0, .int .i64 0, .int .i64 0] 58)).alloc (.cells #[.int .i64 0, .int .i64 0, .int .i64 0, .int .i64 1] 58)) := blw_alloc (blw_alloc (Below.refl _ _) _) _
      have hy0 : Blk ((w.alloc (.cells #[.int .i64 0, .int .i64 0, .int .i64 0, .int .i64 0] 58)).alloc (.cells #[.int .i64 0, .int .i64 0, .int .i64 0, .int .i64 1] 58)) w.heap.size 58 (ruleC 0 0 0 0) := (Blk.new w 58 #[.int .i64 0, .int .i64 0, .int .i64 0, .int .i64 0]).alloc _
      have hO0 : Blk ((w.alloc (.cells #[.int .i64 0, .int .i64 0, .int .i64 0, .int .i64 0] 58)).alloc (.cells #[.int .i64 0, .int .i64 0, .int .i64 0, .int .i64 1] 58)) (w.heap.size + 1) 58 (ruleC 0 0 0 1) := by
        have h := Blk.new (w.alloc (.cells #[.int .i64 0, .int .i64 0, .int .i64 0, .int .i64 0] 58)) 58 (ruleC 0 0 0 1)
        rw [World.size_alloc] at h
        exact h
      go_enter Tryd.func32, Tryd.ntmps32
      rw [h1] at hxm
      go_wp2_with fail
      change Calls Tryd.prog 20 #[.string (x.extract 0 m), .int .u8 (43 : UInt8).toNat] ((w.alloc (.cells #[.int .i64 0, .int .i64 0, .int .i64 0, .int .i64 0] 58)).alloc (.cells #[.int .i64 0, .int .i64 0, .int .i64 0, .int .i64 1] 58)) _
      generalize ((w.alloc (.cells #[.int .i64 0, .int .i64 0, .int .i64 0, .int .i64 0] 58)).alloc (.cells #[.int .i64 0, .int .i64 0, .int .i64 0, .int .i64 1] 58)) = w0 at *
      replace hO0 : Blk w0 (w.heap.size + 1) 58 (ruleC 0 0 0 (actQ b)) := by rw [ha]; exact hO0
      clear h1 ha hxm
      generalize hac : actQ b = av at *
      have Hac := Lib.hid hac
      clear hac
      refine (l1Split_any (x.extract 0 m) 43 w0 (by omega)).mono ?_
      rintro e w1 ⟨A1, c1, rfl, hv1, q1⟩
      rw [← HP.out] at hv1
      simp only [← HP.out]
      have hB1 := blw hB0 q1
      have hy1 := hy0.below q1 hy0.lt
      have hO1 := hO0.below q1 hO0.lt
      have hl1 := hv1.ls encStr_len
      have hG0 := hO0.lt
      have hz1 := q1.size
      have hbP := fun b (hb : blkOf A1 b) => (hv1.block hb).1
      obtain ⟨bP, oP, rfl, ltP, cP0⟩ := hl1.at_String hPp
      rw [← HY.out, Nat.add_zero] at cP0
      go_wp2_with fail
      change Calls Tryd.prog 20 #[.string y, .int .u8 (46 : UInt8).toNat] w1 _
      refine (l1Split_any y 46 w1 (by omega)).mono ?_
      rintro e w2 ⟨A2, c2, rfl, hv2, q2⟩
      rw [← HN.out] at hv2
      simp only [← HN.out]
      have hB2 := blw hB1 q2
      have hy2 := hy1.below q2 hy1.lt
      have hO2 := hO1.below q2 hO1.lt
      have hl2 := hv2.ls encStr_len
      have hPG : w.heap.size + 1 < bP := Nat.lt_of_lt_of_le hG0 (hbP bP ⟨oP, rfl⟩)
      have hbN := fun b (hb : blkOf A2 b) => (hv2.block hb).1
      replace hl1 := (hl1.below q2).more q2.size
      clear hbP cP0 ltP q1 q2 hv1 hv2 hy0 hO0 hB0 hy1 hO1 hB1
      by_cases e2 : P.length = 2 ∧ N.length = 2
      · obtain ⟨e21, e22⟩ := e2
        have r1 : (P.length : Int) = 2 := by omega
        have r2 : (N.length : Int) = 2 := by omega
        obtain ⟨n0, hn0⟩ : ∃ z, z = N[0] := ⟨_, rfl⟩
        obtain ⟨n1, hn1⟩ : ∃ z, z = N[1]'(by omega) := ⟨_, rfl⟩
        obtain ⟨p1, hp1⟩ : ∃ z, z = P[1]'(by omega) := ⟨_, rfl⟩
        have zn0 : n0.size ≤ x.size := by rw [hn0]; exact Nat.le_trans (Hnm.out _ (List.getElem_mem _)) hyz
        have zn1 : n1.size ≤ x.size := by rw [hn1]; exact Nat.le_trans (Hnm.out _ (List.getElem_mem _)) hyz
        have zp1 : p1.size ≤ x.size := by rw [hp1]; exact Nat.le_trans (Hpm.out _ (List.getElem_mem _)) hez
        have Hq := Lib.hid (show rulQ x = ⟨rdI n0, rdI n1, rdI p1, av⟩ by
          rw [rulQ_fit h0 (by rw [HPe.out, HNe.out]; exact ⟨e21, e22⟩), HPe.out, HNe.out, getD_get hNp, getD_get (l := N) (i := 1) (by omega), getD_get (l := P) (i := 1) (by omega), Hlb.out, Hac.out, ← hn0, ← hn1, ← hp1])
        have k1 : ∀ W', Calls Tryd.prog 21 #[.string n0] W' fun e w' => e = .returned (.tuple #[.int .i64 (rdI n0), .bool (readB n0.data.toList)]) ∧ Below W'.heap.size W' w' := fun W' => l1Read_any n0 W' (by omega)
        have k2 : ∀ W', Calls Tryd.prog 21 #[.string n1] W' fun e w' => e = .returned (.tuple #[.int .i64 (rdI n1), .bool (readB n1.data.toList)]) ∧ Below W'.heap.size W' w' := fun W' => l1Read_any n1 W' (by omega)
        have k3 : ∀ W', Calls Tryd.prog 21 #[.string p1] W' fun e w' => e = .returned (.tuple #[.int .i64 (rdI p1), .bool (readB p1.data.toList)]) ∧ Below W'.heap.size W' w' := fun W' => l1Read_any p1 W' (by omega)
        obtain ⟨bP', oP', eP, ltP, cP1⟩ := hl1.at_String (show 1 < P.length by omega)
        cases eP
        obtain ⟨bN, oN, rfl, ltN, cN0⟩ := hl2.at_String hNp
        obtain ⟨bN', oN', eN, ltN', cN1⟩ := hl2.at_String (show 1 < N.length by omega)
        cases eN
        have hNG : w.heap.size + 1 < bN := by have := hbN bN ⟨oN, rfl⟩; omega
        rw [← hn0, Nat.add_zero] at cN0
        rw [← hn1] at cN1
        rw [← hp1] at cP1
        clear hn0 hn1 hp1 ltN' hl1 hl2 hbN
        generalize rdI n0 = v0 at *
        generalize rdI n1 = v1 at *
        generalize rdI p1 = v2 at *
        have hGl := hO2.lt
        have hGw : w.heap.size < w.heap.size + 1 := by omega
        generalize hG : w.heap.size + 1 = G at *
        go_wp2_with fail
        refine (k1 _).mono ?_
        rintro e u3 ⟨rfl, q3⟩
        have hBu3 := blw hB2 q3
        have hyu3 := hy2.below q3 hy2.lt
        have hOu3 := hO2.below q3 hO2.lt
        replace cN1 := (q3.cell (p := ⟨bN, oN + 1, none⟩) ltN).trans cN1
        replace cP1 := (q3.cell (p := ⟨bP, oP + 1, none⟩) ltP).trans cP1
        replace ltN := Nat.lt_of_lt_of_le ltN q3.size
        replace ltP := Nat.lt_of_lt_of_le ltP q3.size
        clear q3
        obtain ⟨x0, x1, x2, x3, f0, f1, f2, f3, xl⟩ := hOu3.ruleCs
        go_wp2_with fail
        have hw3 : Wr (fun q => q = G) u3 (u3.setCell ⟨G, 0, none⟩ (.int .i64 v0)) := Wr.setCell (p := ⟨G, 0, none⟩) (Wr.refl (fun q => q = G) u3) (.inl rfl) _
        have hB3 := hBu3.trans (hw3.below hBu3.size (fun k hk => by omega))
        have hy3 := hyu3.wr hw3 (by omega)
        have hO3 : Blk (u3.setCell ⟨G, 0, none⟩ (.int .i64 v0)) G 58 (ruleC v0 0 0 av) := by
          have h := hOu3.set_ 0 (.int .i64 v0)
          simpa [ruleC] using h
        replace cN1 := (hw3.cell (k := bN) (o := oN + 1) ltN (by omega)).trans cN1
        replace cP1 := (hw3.cell (k := bP) (o := oP + 1) ltP (by omega)).trans cP1
        replace ltN := Nat.lt_of_lt_of_le ltN hw3.size
        replace ltP := Nat.lt_of_lt_of_le ltP hw3.size
        clear hw3 hBu3 hyu3 hOu3
        clear x0 x1 x2 x3 f0 f1 f2 f3 xl
        generalize (u3.setCell ⟨G, 0, none⟩ (.int .i64 v0)) = w3 at *
        refine (k2 _).mono ?_
        rintro e u4 ⟨rfl, q4⟩
        have hBu4 := blw hB3 q4
        have hyu4 := hy3.below q4 hy3.lt
        have hOu4 := hO3.below q4 hO3.lt
        replace cN1 := (q4.cell (p := ⟨bN, oN + 1, none⟩) ltN).trans cN1
        replace cP1 := (q4.cell (p := ⟨bP, oP + 1, none⟩) ltP).trans cP1
        replace ltN := Nat.lt_of_lt_of_le ltN q4.size
        replace ltP := Nat.lt_of_lt_of_le ltP q4.size
        clear q4
        obtain ⟨x0, x1, x2, x3, f0, f1, f2, f3, xl⟩ := hOu4.ruleCs
        go_wp2_with fail
        have hw4 : Wr (fun q => q = G) u4 (u4.setCell ⟨G, 1, none⟩ (.int .i64 v1)) := Wr.setCell (p := ⟨G, 1, none⟩) (Wr.refl (fun q => q = G) u4) (.inl rfl) _
        have hB4 := hBu4.trans (hw4.below hBu4.size (fun k hk => by omega))
        have hy4 := hyu4.wr hw4 (by omega)
        have hO4 : Blk (u4.setCell ⟨G, 1, none⟩ (.int .i64 v1)) G 58 (ruleC v0 v1 0 av) := by
          have h := hOu4.set_ 1 (.int .i64 v1)
          simpa [ruleC] using h
        replace cN1 := (hw4.cell (k := bN) (o := oN + 1) ltN (by omega)).trans cN1
        replace cP1 := (hw4.cell (k := bP) (o := oP + 1) ltP (by omega)).trans cP1
        replace ltN := Nat.lt_of_lt_of_le ltN hw4.size
        replace ltP := Nat.lt_of_lt_of_le ltP hw4.size
        clear hw4 hBu4 hyu4 hOu4
        clear x0 x1 x2 x3 f0 f1 f2 f3 xl
        generalize (u4.setCell ⟨G, 1, none⟩ (.int .i64 v1)) = w4 at *
        refine (k3 _).mono ?_
        rintro e u5 ⟨rfl, q5⟩
        have hBu5 := blw hB4 q5
        have hyu5 := hy4.below q5 hy4.lt
        have hOu5 := hO4.below q5 hO4.lt
        replace cN1 := (q5.cell (p := ⟨bN, oN + 1, none⟩) ltN).trans cN1
        replace cP1 := (q5.cell (p := ⟨bP, oP + 1, none⟩) ltP).trans cP1
        replace ltN := Nat.lt_of_lt_of_le ltN q5.size
        replace ltP := Nat.lt_of_lt_of_le ltP q5.size
        clear q5
        obtain ⟨x0, x1, x2, x3, f0, f1, f2, f3, xl⟩ := hOu5.ruleCs
        obtain ⟨y0, y1, y2, y3, g0, g1, g2, g3, yl⟩ := hyu5.ruleCs
        have hne1 : ¬ w.heap.size = G := by omega
        have hne2 : ¬ G = w.heap.size := by omega
        go_wp2_with fail
        have hw5 : Wr (fun q => q = G) u5 (u5.setCell ⟨G, 2, none⟩ (.int .i64 v2)) := Wr.setCell (p := ⟨G, 2, none⟩) (Wr.refl (fun q => q = G) u5) (.inl rfl) _
        have hB5 := hBu5.trans (hw5.below hBu5.size (fun k hk => by omega))
        have hy5 := hyu5.wr hw5 (by omega)
        clear y0 y1 y2 y3 g0 g1 g2 g3 yl
        clear x0 x1 x2 x3 f0 f1 f2 f3 xl
        clear hw5 hBu5 hyu5 hOu5 cN1 cP1 ltN ltP
        generalize (u5.setCell ⟨G, 2, none⟩ (.int .i64 v2)) = w5 at *
        have hwf : Wr (fun q => q = w.heap.size) w5 ((((w5.setCell ⟨w.heap.size, 0, none⟩ (.int .i64 v0)).setCell ⟨w.heap.size, 1, none⟩ (.int .i64 v1)).setCell ⟨w.heap.size, 2, none⟩ (.int .i64 v2)).setCell ⟨w.heap.size, 3, none⟩ (.int .i64 av)) := (Wr.setCell (p := ⟨w.heap.size, 3, none⟩) (Wr.setCell (p := ⟨w.heap.size, 2, none⟩) (Wr.setCell (p := ⟨w.heap.size, 1, none⟩) (Wr.setCell (p := ⟨w.heap.size, 0, none⟩) (Wr.refl (fun q => q = w.heap.size) w5) (.inl rfl) (.int .i64 v0)) (.inl rfl) (.int .i64 v1)) (.inl rfl) (.int .i64 v2)) (.inl rfl) (.int .i64 av))
        have hyf : Blk ((((w5.setCell ⟨w.heap.size, 0, none⟩ (.int .i64 v0)).setCell ⟨w.heap.size, 1, none⟩ (.int .i64 v1)).setCell ⟨w.heap.size, 2, none⟩ (.int .i64 v2)).setCell ⟨w.heap.size, 3, none⟩ (.int .i64 av)) w.heap.size 58 (ruleC v0 v1 v2 av) := by
          have h := ((((hy5.set_ 0 (.int .i64 v0)).set_ 1 (.int .i64 v1)).set_ 2 (.int .i64 v2)).set_ 3 (.int .i64 av))
          simpa [ruleC] using h
        have hBf := hB5.trans (hwf.below hB5.size (fun k hk => Nat.le_of_eq hk.symm))
        clear hwf
        generalize ((((w5.setCell ⟨w.heap.size, 0, none⟩ (.int .i64 v0)).setCell ⟨w.heap.size, 1, none⟩ (.int .i64 v1)).setCell ⟨w.heap.size, 2, none⟩ (.int .i64 v2)).setCell ⟨w.heap.size, 3, none⟩ (.int .i64 av)) = wf at *
        obtain ⟨j0, j1, j2, j3, _, _, _, _, jl⟩ := hyf.ruleCs
        exact bodyPost_ret (v := .agg #[.int .i64 v0, .int .i64 v1, .int .i64 v2, .int .i64 av]) (by simp [results, Tryd.results32, go_sem, jl, j0, j1, j2, j3]) rfl ⟨by rw [Hq.out], hBf⟩
      · have Hq := Lib.hid (rulQ_bad (x := x) (by rw [HPe.out, HNe.out]; exact e2))
        rcases (show ¬ (P.length : Int) = 2 ∨ ((P.length : Int) = 2 ∧ ¬ (N.length : Int) = 2) by
          by_cases h1 : P.length = 2
          · exact .inr ⟨by omega, fun h => e2 ⟨h1, by omega⟩⟩
          · exact .inl (by omega)) with r1 | ⟨r1, r2⟩
        · clear e2
          obtain ⟨y0, y1, y2, y3, g0, g1, g2, g3, yl⟩ := hy2.ruleCs
          go_wp2_with fail
          have hwf : Wr (fun q => q = w.heap.size) w2 ((((w2.setCell ⟨w.heap.size, 0, none⟩ (.int .i64 0)).setCell ⟨w.heap.size, 1, none⟩ (.int .i64 0)).setCell ⟨w.heap.size, 2, none⟩ (.int .i64 0)).setCell ⟨w.heap.size, 3, none⟩ (.int .i64 0)) := (Wr.setCell (p := ⟨w.heap.size, 3, none⟩) (Wr.setCell (p := ⟨w.heap.size, 2, none⟩) (Wr.setCell (p := ⟨w.heap.size, 1, none⟩) (Wr.setCell (p := ⟨w.heap.size, 0, none⟩) (Wr.refl (fun q => q = w.heap.size) w2) (.inl rfl) (.int .i64 0)) (.inl rfl) (.int .i64 0)) (.inl rfl) (.int .i64 0)) (.inl rfl) (.int .i64 0))
          have hyf : Blk ((((w2.setCell ⟨w.heap.size, 0, none⟩ (.int .i64 0)).setCell ⟨w.heap.size, 1, none⟩ (.int .i64 0)).setCell ⟨w.heap.size, 2, none⟩ (.int .i64 0)).setCell ⟨w.heap.size, 3, none⟩ (.int .i64 0)) w.heap.size 58 (ruleC 0 0 0 0) := by
            have h := ((((hy2.set_ 0 (.int .i64 0)).set_ 1 (.int .i64 0)).set_ 2 (.int .i64 0)).set_ 3 (.int .i64 0))
            simpa [ruleC] using h
          have hBf := hB2.trans (hwf.below hB2.size (fun k hk => Nat.le_of_eq hk.symm))
          clear hwf
          generalize ((((w2.setCell ⟨w.heap.size, 0, none⟩ (.int .i64 0)).setCell ⟨w.heap.size, 1, none⟩ (.int .i64 0)).setCell ⟨w.heap.size, 2, none⟩ (.int .i64 0)).setCell ⟨w.heap.size, 3, none⟩ (.int .i64 0)) = wf at *
          obtain ⟨j0, j1, j2, j3, _, _, _, _, jl⟩ := hyf.ruleCs
          exact bodyPost_ret (v := .agg #[.int .i64 0, .int .i64 0, .int .i64 0, .int .i64 0]) (by simp [results, Tryd.results32, go_sem, jl, j0, j1, j2, j3]) rfl ⟨by rw [Hq.out], hBf⟩
        · clear e2
          obtain ⟨y0, y1, y2, y3, g0, g1, g2, g3, yl⟩ := hy2.ruleCs
          go_wp2_with fail
          have hwf : Wr (fun q => q = w.heap.size) w2 ((((w2.setCell ⟨w.heap.size, 0, none⟩ (.int .i64 0)).setCell ⟨w.heap.size, 1, none⟩ (.int .i64 0)).setCell ⟨w.heap.size, 2, none⟩ (.int .i64 0)).setCell ⟨w.heap.size, 3, none⟩ (.int .i64 0)) := (Wr.setCell (p := ⟨w.heap.size, 3, none⟩) (Wr.setCell (p := ⟨w.heap.size, 2, none⟩) (Wr.setCell (p := ⟨w.heap.size, 1, none⟩) (Wr.setCell (p := ⟨w.heap.size, 0, none⟩) (Wr.refl (fun q => q = w.heap.size) w2) (.inl rfl) (.int .i64 0)) (.inl rfl) (.int .i64 0)) (.inl rfl) (.int .i64 0)) (.inl rfl) (.int .i64 0))
          have hyf : Blk ((((w2.setCell ⟨w.heap.size, 0, none⟩ (.int .i64 0)).setCell ⟨w.heap.size, 1, none⟩ (.int .i64 0)).setCell ⟨w.heap.size, 2, none⟩ (.int .i64 0)).setCell ⟨w.heap.size, 3, none⟩ (.int .i64 0)) w.heap.size 58 (ruleC 0 0 0 0) := by
            have h := ((((hy2.set_ 0 (.int .i64 0)).set_ 1 (.int .i64 0)).set_ 2 (.int .i64 0)).set_ 3 (.int .i64 0))
            simpa [ruleC] using h
          have hBf := hB2.trans (hwf.below hB2.size (fun k hk => Nat.le_of_eq hk.symm))
          clear hwf
          generalize ((((w2.setCell ⟨w.heap.size, 0, none⟩ (.int .i64 0)).setCell ⟨w.heap.size, 1, none⟩ (.int .i64 0)).setCell ⟨w.heap.size, 2, none⟩ (.int .i64 0)).setCell ⟨w.heap.size, 3, none⟩ (.int .i64 0)) = wf at *
          obtain ⟨j0, j1, j2, j3, _, _, _, _, jl⟩ := hyf.ruleCs
          exact bodyPost_ret (v := .agg #[.int .i64 0, .int .i64 0, .int .i64 0, .int .i64 0]) (by simp [results, Tryd.results32, go_sem, jl, j0, j1, j2, j3]) rfl ⟨by rw [Hq.out], hBf⟩
    · have hB0 : Below w.heap.size w ((w.alloc (.cells #[.int .i64 0, .int .i64 0, .int .i64 0, .int .i64 0] 58)).alloc (.cells #[.int .i64 0, .int .i64 0, .int .i64 0, .int .i64 2] 58)) := blw_alloc (blw_alloc (Below.refl _ _) _) _
      have hy0 : Blk ((w.alloc (.cells #[.int .i64 0, .int .i64 0, .int .i64 0, .int .i64 0] 58)).alloc (.cells #[.int .i64 0, .int .i64 0, .int .i64 0, .int .i64 2] 58)) w.heap.size 58 (ruleC 0 0 0 0) := (Blk.new w 58 #[.int .i64 0, .int .i64 0, .int .i64 0, .int .i64 0]).alloc _
      have hO0 : Blk ((w.alloc (.cells #[.int .i64 0, .int .i64 0, .int .i64 0, .int .i64 0] 58)).alloc (.cells #[.int .i64 0, .int .i64 0, .int .i64 0, .int .i64 2] 58)) (w.heap.size + 1) 58 (ruleC 0 0 0 2) := by
        have h := Blk.new (w.alloc (.cells #[.int .i64 0, .int .i64 0, .int .i64 0, .int .i64 0] 58)) 58 (ruleC 0 0 0 2)
        rw [World.size_alloc] at h
        exact h
      go_enter Tryd.func32, Tryd.ntmps32
      rw [h1] at hxm
      go_wp2_with fail
      change Calls Tryd.prog 20 #[.string (x.extract 0 m), .int .u8 (43 : UInt8).toNat] ((w.alloc (.cells #[.int .i64 0, .int .i64 0, .int .i64 0, .int .i64 0] 58)).alloc (.cells #[.int .i64 0, .int .i64 0, .int .i64 0, .int .i64 2] 58)) _
      generalize ((w.alloc (.cells #[.int .i64 0, .int .i64 0, .int .i64 0, .int .i64 0] 58)).alloc (.cells #[.int .i64 0, .int .i64 0, .int .i64 0, .int .i64 2] 58)) = w0 at *
      replace hO0 : Blk w0 (w.heap.size + 1) 58 (ruleC 0 0 0 (actQ b)) := by rw [ha]; exact hO0
      clear h1 ha hxm
      generalize hac : actQ b = av at *
      have Hac := Lib.hid hac
      clear hac
      refine (l1Split_any (x.extract 0 m) 43 w0 (by omega)).mono ?_
      rintro e w1 ⟨A1, c1, rfl, hv1, q1⟩
      rw [← HP.out] at hv1
      simp only [← HP.out]
      have hB1 := blw hB0 q1
      have hy1 := hy0.below q1 hy0.lt
      have hO1 := hO0.below q1 hO0.lt
      have hl1 := hv1.ls encStr_len
      have hG0 := hO0.lt
      have hz1 := q1.size
      have hbP := fun b (hb : blkOf A1 b) => (hv1.block hb).1
      obtain ⟨bP, oP, rfl, ltP, cP0⟩ := hl1.at_String hPp
      rw [← HY.out, Nat.add_zero] at cP0
      go_wp2_with fail
      change Calls Tryd.prog 20 #[.string y, .int .u8 (46 : UInt8).toNat] w1 _
      refine (l1Split_any y 46 w1 (by omega)).mono ?_
      rintro e w2 ⟨A2, c2, rfl, hv2, q2⟩
      rw [← HN.out] at hv2
      simp only [← HN.out]
      have hB2 := blw hB1 q2
      have hy2 := hy1.below q2 hy1.lt
      have hO2 := hO1.below q2 hO1.lt
      have hl2 := hv2.ls encStr_len
      have hPG : w.heap.size + 1 < bP := Nat.lt_of_lt_of_le hG0 (hbP bP ⟨oP, rfl⟩)
      have hbN := fun b (hb : blkOf A2 b) => (hv2.block hb).1
      replace hl1 := (hl1.below q2).more q2.size
      clear hbP cP0 ltP q1 q2 hv1 hv2 hy0 hO0 hB0 hy1 hO1 hB1
      by_cases e2 : P.length = 2 ∧ N.length = 2
      · obtain ⟨e21, e22⟩ := e2
        have r1 : (P.length : Int) = 2 := by omega
        have r2 : (N.length : Int) = 2 := by omega
        obtain ⟨n0, hn0⟩ : ∃ z, z = N[0] := ⟨_, rfl⟩
        obtain ⟨n1, hn1⟩ : ∃ z, z = N[1]'(by omega) := ⟨_, rfl⟩
        obtain ⟨p1, hp1⟩ : ∃ z, z = P[1]'(by omega) := ⟨_, rfl⟩
        have zn0 : n0.size ≤ x.size := by rw [hn0]; exact Nat.le_trans (Hnm.out _ (List.getElem_mem _)) hyz
        have zn1 : n1.size ≤ x.size := by rw [hn1]; exact Nat.le_trans (Hnm.out _ (List.getElem_mem _)) hyz
        have zp1 : p1.size ≤ x.size := by rw [hp1]; exact Nat.le_trans (Hpm.out _ (List.getElem_mem _)) hez
        have Hq := Lib.hid (show rulQ x = ⟨rdI n0, rdI n1, rdI p1, av⟩ by
          rw [rulQ_fit h0 (by rw [HPe.out, HNe.out]; exact ⟨e21, e22⟩), HPe.out, HNe.out, getD_get hNp, getD_get (l := N) (i := 1) (by omega), getD_get (l := P) (i := 1) (by omega), Hlb.out, Hac.out, ← hn0, ← hn1, ← hp1])
        have k1 : ∀ W', Calls Tryd.prog 21 #[.string n0] W' fun e w' => e = .returned (.tuple #[.int .i64 (rdI n0), .bool (readB n0.data.toList)]) ∧ Below W'.heap.size W' w' := fun W' => l1Read_any n0 W' (by omega)
        have k2 : ∀ W', Calls Tryd.prog 21 #[.string n1] W' fun e w' => e = .returned (.tuple #[.int .i64 (rdI n1), .bool (readB n1.data.toList)]) ∧ Below W'.heap.size W' w' := fun W' => l1Read_any n1 W' (by omega)
        have k3 : ∀ W', Calls Tryd.prog 21 #[.string p1] W' fun e w' => e = .returned (.tuple #[.int .i64 (rdI p1), .bool (readB p1.data.toList)]) ∧ Below W'.heap.size W' w' := fun W' => l1Read_any p1 W' (by omega)
        obtain ⟨bP', oP', eP, ltP, cP1⟩ := hl1.at_String (show 1 < P.length by omega)
        cases eP
        obtain ⟨bN, oN, rfl, ltN, cN0⟩ := hl2.at_String hNp
        obtain ⟨bN', oN', eN, ltN', cN1⟩ := hl2.at_String (show 1 < N.length by omega)
        cases eN
        have hNG : w.heap.size + 1 < bN := by have := hbN bN ⟨oN, rfl⟩; omega
        rw [← hn0, Nat.add_zero] at cN0
        rw [← hn1] at cN1
        rw [← hp1] at cP1
        clear hn0 hn1 hp1 ltN' hl1 hl2 hbN
        generalize rdI n0 = v0 at *
        generalize rdI n1 = v1 at *
        generalize rdI p1 = v2 at *
        have hGl := hO2.lt
        have hGw : w.heap.size < w.heap.size + 1 := by omega
        generalize hG : w.heap.size + 1 = G at *
        go_wp2_with fail
        refine (k1 _).mono ?_
        rintro e u3 ⟨rfl, q3⟩
        have hBu3 := blw hB2 q3
        have hyu3 := hy2.below q3 hy2.lt
        have hOu3 := hO2.below q3 hO2.lt
        replace cN1 := (q3.cell (p := ⟨bN, oN + 1, none⟩) ltN).trans cN1
        replace cP1 := (q3.cell (p := ⟨bP, oP + 1, none⟩) ltP).trans cP1
        replace ltN := Nat.lt_of_lt_of_le ltN q3.size
        replace ltP := Nat.lt_of_lt_of_le ltP q3.size
        clear q3
        obtain ⟨x0, x1, x2, x3, f0, f1, f2, f3, xl⟩ := hOu3.ruleCs
        go_wp2_with fail
        have hw3 : Wr (fun q => q = G) u3 (u3.setCell ⟨G, 0, none⟩ (.int .i64 v0)) := Wr.setCell (p := ⟨G, 0, none⟩) (Wr.refl (fun q => q = G) u3) (.inl rfl) _
        have hB3 := hBu3.trans (hw3.below hBu3.size (fun k hk => by omega))
        have hy3 := hyu3.wr hw3 (by omega)
        have hO3 : Blk (u3.setCell ⟨G, 0, none⟩ (.int .i64 v0)) G 58 (ruleC v0 0 0 av) := by
          have h := hOu3.set_ 0 (.int .i64 v0)
          simpa [ruleC] using h
        replace cN1 := (hw3.cell (k := bN) (o := oN + 1) ltN (by omega)).trans cN1
        replace cP1 := (hw3.cell (k := bP) (o := oP + 1) ltP (by omega)).trans cP1
        replace ltN := Nat.lt_of_lt_of_le ltN hw3.size
        replace ltP := Nat.lt_of_lt_of_le ltP hw3.size
        clear hw3 hBu3 hyu3 hOu3
        clear x0 x1 x2 x3 f0 f1 f2 f3 xl
        generalize (u3.setCell ⟨G, 0, none⟩ (.int .i64 v0)) = w3 at *
        refine (k2 _).mono ?_
        rintro e u4 ⟨rfl, q4⟩
        have hBu4 := blw hB3 q4
        have hyu4 := hy3.below q4 hy3.lt
        have hOu4 := hO3.below q4 hO3.lt
        replace cN1 := (q4.cell (p := ⟨bN, oN + 1, none⟩) ltN).trans cN1
        replace cP1 := (q4.cell (p := ⟨bP, oP + 1, none⟩) ltP).trans cP1
        replace ltN := Nat.lt_of_lt_of_le ltN q4.size
        replace ltP := Nat.lt_of_lt_of_le ltP q4.size
        clear q4
        obtain ⟨x0, x1, x2, x3, f0, f1, f2, f3, xl⟩ := hOu4.ruleCs
        go_wp2_with fail
        have hw4 : Wr (fun q => q = G) u4 (u4.setCell ⟨G, 1, none⟩ (.int .i64 v1)) := Wr.setCell (p := ⟨G, 1, none⟩) (Wr.refl (fun q => q = G) u4) (.inl rfl) _
        have hB4 := hBu4.trans (hw4.below hBu4.size (fun k hk => by omega))
        have hy4 := hyu4.wr hw4 (by omega)
        have hO4 : Blk (u4.setCell ⟨G, 1, none⟩ (.int .i64 v1)) G 58 (ruleC v0 v1 0 av) := by
          have h := hOu4.set_ 1 (.int .i64 v1)
          simpa [ruleC] using h
        replace cN1 := (hw4.cell (k := bN) (o := oN + 1) ltN (by omega)).trans cN1
        replace cP1 := (hw4.cell (k := bP) (o := oP + 1) ltP (by omega)).trans cP1
        replace ltN := Nat.lt_of_lt_of_le ltN hw4.size
        replace ltP := Nat.lt_of_lt_of_le ltP hw4.size
        clear hw4 hBu4 hyu4 hOu4
        clear x0 x1 x2 x3 f0 f1 f2 f3 xl
        generalize (u4.setCell ⟨G, 1, none⟩ (.int .i64 v1)) = w4 at *
        refine (k3 _).mono ?_
        rintro e u5 ⟨rfl, q5⟩
        have hBu5 := blw hB4 q5
        have hyu5 := hy4.below q5 hy4.lt
        have hOu5 := hO4.below q5 hO4.lt
        replace cN1 := (q5.cell (p := ⟨bN, oN + 1, none⟩) ltN).trans cN1
        replace cP1 := (q5.cell (p := ⟨bP, oP + 1, none⟩) ltP).trans cP1
        replace ltN := Nat.lt_of_lt_of_le ltN q5.size
        replace ltP := Nat.lt_of_lt_of_le ltP q5.size
        clear q5
        obtain ⟨x0, x1, x2, x3, f0, f1, f2, f3, xl⟩ := hOu5.ruleCs
        obtain ⟨y0, y1, y2, y3, g0, g1, g2, g3, yl⟩ := hyu5.ruleCs
        have hne1 : ¬ w.heap.size = G := by omega
        have hne2 : ¬ G = w.heap.size := by omega
        go_wp2_with fail
        have hw5 : Wr (fun q => q = G) u5 (u5.setCell ⟨G, 2, none⟩ (.int .i64 v2)) := Wr.setCell (p := ⟨G, 2, none⟩) (Wr.refl (fun q => q = G) u5) (.inl rfl) _
        have hB5 := hBu5.trans (hw5.below hBu5.size (fun k hk => by omega))
        have hy5 := hyu5.wr hw5 (by omega)
        clear y0 y1 y2 y3 g0 g1 g2 g3 yl
        clear x0 x1 x2 x3 f0 f1 f2 f3 xl
        clear hw5 hBu5 hyu5 hOu5 cN1 cP1 ltN ltP
        generalize (u5.setCell ⟨G, 2, none⟩ (.int .i64 v2)) = w5 at *
        have hwf : Wr (fun q => q = w.heap.size) w5 ((((w5.setCell ⟨w.heap.size, 0, none⟩ (.int .i64 v0)).setCell ⟨w.heap.size, 1, none⟩ (.int .i64 v1)).setCell ⟨w.heap.size, 2, none⟩ (.int .i64 v2)).setCell ⟨w.heap.size, 3, none⟩ (.int .i64 av)) := (Wr.setCell (p := ⟨w.heap.size, 3, none⟩) (Wr.setCell (p := ⟨w.heap.size, 2, none⟩) (Wr.setCell (p := ⟨w.heap.size, 1, none⟩) (Wr.setCell (p := ⟨w.heap.size, 0, none⟩) (Wr.refl (fun q => q = w.heap.size) w5) (.inl rfl) (.int .i64 v0)) (.inl rfl) (.int .i64 v1)) (.inl rfl) (.int .i64 v2)) (.inl rfl) (.int .i64 av))
        have hyf : Blk ((((w5.setCell ⟨w.heap.size, 0, none⟩ (.int .i64 v0)).setCell ⟨w.heap.size, 1, none⟩ (.int .i64 v1)).setCell ⟨w.heap.size, 2, none⟩ (.int .i64 v2)).setCell ⟨w.heap.size, 3, none⟩ (.int .i64 av)) w.heap.size 58 (ruleC v0 v1 v2 av) := by
          have h := ((((hy5.set_ 0 (.int .i64 v0)).set_ 1 (.int .i64 v1)).set_ 2 (.int .i64 v2)).set_ 3 (.int .i64 av))
          simpa [ruleC] using h
        have hBf := hB5.trans (hwf.below hB5.size (fun k hk => Nat.le_of_eq hk.symm))
        clear hwf
        generalize ((((w5.setCell ⟨w.heap.size, 0, none⟩ (.int .i64 v0)).setCell ⟨w.heap.size, 1, none⟩ (.int .i64 v1)).setCell ⟨w.heap.size, 2, none⟩ (.int .i64 v2)).setCell ⟨w.heap.size, 3, none⟩ (.int .i64 av)) = wf at *
        obtain ⟨j0, j1, j2, j3, _, _, _, _, jl⟩ := hyf.ruleCs
        exact bodyPost_ret (v := .agg #[.int .i64 v0, .int .i64 v1, .int .i64 v2, .int .i64 av]) (by simp [results, Tryd.results32, go_sem, jl, j0, j1, j2, j3]) rfl ⟨by rw [Hq.out], hBf⟩
      · have Hq := Lib.hid (rulQ_bad (x := x) (by rw [HPe.out, HNe.out]; exact e2))
        rcases (show ¬ (P.length : Int) = 2 ∨ ((P.length : Int) = 2 ∧ ¬ (N.length : Int) = 2) by
          by_cases h1 : P.length = 2
          · exact .inr ⟨by omega, fun h => e2 ⟨h1, by omega⟩⟩
          · exact .inl (by omega)) with r1 | ⟨r1, r2⟩
        · clear e2
          obtain ⟨y0, y1, y2, y3, g0, g1, g2, g3, yl⟩ := hy2.ruleCs
          go_wp2_with fail
          have hwf : Wr (fun q => q = w.heap.size) w2 ((((w2.setCell ⟨w.heap.size, 0, none⟩ (.int .i64 0)).setCell ⟨w.heap.size, 1, none⟩ (.int .i64 0)).setCell ⟨w.heap.size, 2, none⟩ (.int .i64 0)).setCell ⟨w.heap.size, 3, none⟩ (.int .i64 0)) := (Wr.setCell (p := ⟨w.heap.size, 3, none⟩) (Wr.setCell (p := ⟨w.heap.size, 2, none⟩) (Wr.setCell (p := ⟨w.heap.size, 1, none⟩) (Wr.setCell (p := ⟨w.heap.size, 0, none⟩) (Wr.refl (fun q => q = w.heap.size) w2) (.inl rfl) (.int .i64 0)) (.inl rfl) (.int .i64 0)) (.inl rfl) (.int .i64 0)) (.inl rfl) (.int .i64 0))
          have hyf : Blk ((((w2.setCell ⟨w.heap.size, 0, none⟩ (.int .i64 0)).setCell ⟨w.heap.size, 1, none⟩ (.int .i64 0)).setCell ⟨w.heap.size, 2, none⟩ (.int .i64 0)).setCell ⟨w.heap.size, 3, none⟩ (.int .i64 0)) w.heap.size 58 (ruleC 0 0 0 0) := by
            have h := ((((hy2.set_ 0 (.int .i64 0)).set_ 1 (.int .i64 0)).set_ 2 (.int .i64 0)).set_ 3 (.int .i64 0))
            simpa [ruleC] using h
          have hBf := hB2.trans (hwf.below hB2.size (fun k hk => Nat.le_of_eq hk.symm))
          clear hwf
          generalize ((((w2.setCell ⟨w.heap.size, 0, none⟩ (.int .i64 0)).setCell ⟨w.heap.size, 1, none⟩ (.int .i64 0)).setCell ⟨w.heap.size, 2, none⟩ (.int .i64 0)).setCell ⟨w.heap.size, 3, none⟩ (.int .i64 0)) = wf at *
          obtain ⟨j0, j1, j2, j3, _, _, _, _, jl⟩ := hyf.ruleCs
          exact bodyPost_ret (v := .agg #[.int .i64 0, .int .i64 0, .int .i64 0, .int .i64 0]) (by simp [results, Tryd.results32, go_sem, jl, j0, j1, j2, j3]) rfl ⟨by rw [Hq.out], hBf⟩
        · clear e2
          obtain ⟨y0, y1, y2, y3, g0, g1, g2, g3, yl⟩ := hy2.ruleCs
          go_wp2_with fail
          have hwf : Wr (fun q => q = w.heap.size) w2 ((((w2.setCell ⟨w.heap.size, 0, none⟩ (.int .i64 0)).setCell ⟨w.heap.size, 1, none⟩ (.int .i64 0)).setCell ⟨w.heap.size, 2, none⟩ (.int .i64 0)).setCell ⟨w.heap.size, 3, none⟩ (.int .i64 0)) := (Wr.setCell (p := ⟨w.heap.size, 3, none⟩) (Wr.setCell (p := ⟨w.heap.size, 2, none⟩) (Wr.setCell (p := ⟨w.heap.size, 1, none⟩) (Wr.setCell (p := ⟨w.heap.size, 0, none⟩) (Wr.refl (fun q => q = w.heap.size) w2) (.inl rfl) (.int .i64 0)) (.inl rfl) (.int .i64 0)) (.inl rfl) (.int .i64 0)) (.inl rfl) (.int .i64 0))
          have hyf : Blk ((((w2.setCell ⟨w.heap.size, 0, none⟩ (.int .i64 0)).setCell ⟨w.heap.size, 1, none⟩ (.int .i64 0)).setCell ⟨w.heap.size, 2, none⟩ (.int .i64 0)).setCell ⟨w.heap.size, 3, none⟩ (.int .i64 0)) w.heap.size 58 (ruleC 0 0 0 0) := by
            have h := ((((hy2.set_ 0 (.int .i64 0)).set_ 1 (.int .i64 0)).set_ 2 (.int .i64 0)).set_ 3 (.int .i64 0))
            simpa [ruleC] using h
          have hBf := hB2.trans (hwf.below hB2.size (fun k hk => Nat.le_of_eq hk.symm))
          clear hwf
          generalize ((((w2.setCell ⟨w.heap.size, 0, none⟩ (.int .i64 0)).setCell ⟨w.heap.size, 1, none⟩ (.int .i64 0)).setCell ⟨w.heap.size, 2, none⟩ (.int .i64 0)).setCell ⟨w.heap.size, 3, none⟩ (.int .i64 0)) = wf at *
          obtain ⟨j0, j1, j2, j3, _, _, _, _, jl⟩ := hyf.ruleCs
          exact bodyPost_ret (v := .agg #[.int .i64 0, .int .i64 0, .int .i64 0, .int .i64 0]) (by simp [results, Tryd.results32, go_sem, jl, j0, j1, j2, j3]) rfl ⟨by rw [Hq.out], hBf⟩
    · have hB0 : Below w.heap.size w ((w.alloc (.cells #[.int .i64 0, .int .i64 0, .int .i64 0, .int .i64 0] 58)).alloc (.cells #[.int .i64 0, .int .i64 0, .int .i64 0, .int .i64 3] 58)) := blw_alloc (blw_alloc (Below.refl _ _) _) _
      have hy0 : Blk ((w.alloc (.cells #[.int .i64 0, .int .i64 0, .int .i64 0, .int .i64 0] 58)).alloc (.cells #[.int .i64 0, .int .i64 0, .int .i64 0, .int .i64 3] 58)) w.heap.size 58 (ruleC 0 0 0 0) := (Blk.new w 58 #[.int .i64 0, .int .i64 0, .int .i64 0, .int .i64 0]).alloc _
      have hO0 : Blk ((w.alloc (.cells #[.int .i64 0, .int .i64 0, .int .i64 0, .int .i64 0] 58)).alloc (.cells #[.int .i64 0, .int .i64 0, .int .i64 0, .int .i64 3] 58)) (w.heap.size + 1) 58 (ruleC 0 0 0 3) := by
        have h := Blk.new (w.alloc (.cells #[.int .i64 0, .int .i64 0, .int .i64 0, .int .i64 0] 58)) 58 (ruleC 0 0 0 3)
        rw [World.size_alloc] at h
        exact h
      go_enter Tryd.func32, Tryd.ntmps32
      rw [h1] at hxm
      go_wp2_with fail
      change Calls Tryd.prog 20 #[.string (x.extract 0 m), .int .u8 (43 : UInt8).toNat] ((w.alloc (.cells #[.int .i64 0, .int .i64 0, .int .i64 0, .int .i64 0] 58)).alloc (.cells #[.int .i64 0, .int .i64 0, .int .i64 0, .int .i64 3] 58)) _
      generalize ((w.alloc (.cells #[.int .i64 0, .int .i64 0, .int .i64 0, .int .i64 0] 58)).alloc (.cells #[.int .i64 0, .int .i64 0, .int .i64 0, .int .i64 3] 58)) = w0 at *
      replace hO0 : Blk w0 (w.heap.size + 1) 58 (ruleC 0 0 0 (actQ b)) := by rw [ha]; exact hO0
      clear h1 ha hxm
      generalize hac : actQ b = av at *
      have Hac := Lib.hid hac
      clear hac
      refine (l1Split_any (x.extract 0 m) 43 w0 (by omega)).mono ?_
      rintro e w1 ⟨A1, c1, rfl, hv1, q1⟩
      rw [← HP.out] at hv1
      simp only [← HP.out]
      have hB1 := blw hB0 q1
      have hy1 := hy0.below q1 hy0.lt
      have hO1 := hO0.below q1 hO0.lt
      have hl1 := hv1.ls encStr_len
      have hG0 := hO0.lt
      have hz1 := q1.size
      have hbP := fun b (hb : blkOf A1 b) => (hv1.block hb).1
      obtain ⟨bP, oP, rfl, ltP, cP0⟩ := hl1.at_String hPp
      rw [← HY.out, Nat.add_zero] at cP0
      go_wp2_with fail
      change Calls Tryd.prog 20 #[.string y, .int .u8 (46 : UInt8).toNat] w1 _
      refine (l1Split_any y 46 w1 (by omega)).mono ?_
      rintro e w2 ⟨A2, c2, rfl, hv2, q2⟩
      rw [← HN.out] at hv2
      simp only [← HN.out]
      have hB2 := blw hB1 q2
      have hy2 := hy1.below q2 hy1.lt
      have hO2 := hO1.below q2 hO1.lt
      have hl2 := hv2.ls encStr_len
      have hPG : w.heap.size + 1 < bP := Nat.lt_of_lt_of_le hG0 (hbP bP ⟨oP, rfl⟩)
      have hbN := fun b (hb : blkOf A2 b) => (hv2.block hb).1
      replace hl1 := (hl1.below q2).more q2.size
      clear hbP cP0 ltP q1 q2 hv1 hv2 hy0 hO0 hB0 hy1 hO1 hB1
      by_cases e2 : P.length = 2 ∧ N.length = 2
      · obtain ⟨e21, e22⟩ := e2
        have r1 : (P.length : Int) = 2 := by omega
        have r2 : (N.length : Int) = 2 := by omega
        obtain ⟨n0, hn0⟩ : ∃ z, z = N[0] := ⟨_, rfl⟩
        obtain ⟨n1, hn1⟩ : ∃ z, z = N[1]'(by omega) := ⟨_, rfl⟩
        obtain ⟨p1, hp1⟩ : ∃ z, z = P[1]'(by omega) := ⟨_, rfl⟩
        have zn0 : n0.size ≤ x.size := by rw [hn0]; exact Nat.le_trans (Hnm.out _ (List.getElem_mem _)) hyz
        have zn1 : n1.size ≤ x.size := by rw [hn1]; exact Nat.le_trans (Hnm.out _ (List.getElem_mem _)) hyz
        have zp1 : p1.size ≤ x.size := by rw [hp1]; exact Nat.le_trans (Hpm.out _ (List.getElem_mem _)) hez
        have Hq := Lib.hid (show rulQ x = ⟨rdI n0, rdI n1, rdI p1, av⟩ by
          rw [rulQ_fit h0 (by rw [HPe.out, HNe.out]; exact ⟨e21, e22⟩), HPe.out, HNe.out, getD_get hNp, getD_get (l := N) (i := 1) (by omega), getD_get (l := P) (i := 1) (by omega), Hlb.out, Hac.out, ← hn0, ← hn1, ← hp1])
        have k1 : ∀ W', Calls Tryd.prog 21 #[.string n0] W' fun e w' => e = .returned (.tuple #[.int .i64 (rdI n0), .bool (readB n0.data.toList)]) ∧ Below W'.heap.size W' w' := fun W' => l1Read_any n0 W' (by omega)
        have k2 : ∀ W', Calls Tryd.prog 21 #[.string n1] W' fun e w' => e = .returned (.tuple #[.int .i64 (rdI n1), .bool (readB n1.data.toList)]) ∧ Below W'.heap.size W' w' := fun W' => l1Read_any n1 W' (by omega)
        have k3 : ∀ W', Calls Tryd.prog 21 #[.string p1] W' fun e w' => e = .returned (.tuple #[.int .i64 (rdI p1), .bool (readB p1.data.toList)]) ∧ Below W'.heap.size W' w' := fun W' => l1Read_any p1 W' (by omega)
        obtain ⟨bP', oP', eP, ltP, cP1⟩ := hl1.at_String (show 1 < P.length by omega)
        cases eP
        obtain ⟨bN, oN, rfl, ltN, cN0⟩ := hl2.at_String hNp
        obtain ⟨bN', oN', eN, ltN', cN1⟩ := hl2.at_String (show 1 < N.length by omega)
        cases eN
        have hNG : w.heap.size + 1 < bN := by have := hbN bN ⟨oN, rfl⟩; omega
        rw [← hn0, Nat.add_zero] at cN0
        rw [← hn1] at cN1
        rw [← hp1] at cP1
        clear hn0 hn1 hp1 ltN' hl1 hl2 hbN
        generalize rdI n0 = v0 at *
        generalize rdI n1 = v1 at *
        generalize rdI p1 = v2 at *
        have hGl := hO2.lt
        have hGw : w.heap.size < w.heap.size + 1 := by omega
        generalize hG : w.heap.size + 1 = G at *
        go_wp2_with fail
        refine (k1 _).mono ?_
        rintro e u3 ⟨rfl, q3⟩
        have hBu3 := blw hB2 q3
        have hyu3 := hy2.below q3 hy2.lt
        have hOu3 := hO2.below q3 hO2.lt
        replace cN1 := (q3.cell (p := ⟨bN, oN + 1, none⟩) ltN).trans cN1
        replace cP1 := (q3.cell (p := ⟨bP, oP + 1, none⟩) ltP).trans cP1
        replace ltN := Nat.lt_of_lt_of_le ltN q3.size
        replace ltP := Nat.lt_of_lt_of_le ltP q3.size
        clear q3
        obtain ⟨x0, x1, x2, x3, f0, f1, f2, f3, xl⟩ := hOu3.ruleCs
        go_wp2_with fail
        have hw3 : Wr (fun q => q = G) u3 (u3.setCell ⟨G, 0, none⟩ (.int .i64 v0)) := Wr.setCell (p := ⟨G, 0, none⟩) (Wr.refl (fun q => q = G) u3) (.inl rfl) _
        have hB3 := hBu3.trans (hw3.below hBu3.size (fun k hk => by omega))
        have hy3 := hyu3.wr hw3 (by omega)
        have hO3 : Blk (u3.setCell ⟨G, 0, none⟩ (.int .i64 v0)) G 58 (ruleC v0 0 0 av) := by
          have h := hOu3.set_ 0 (.int .i64 v0)
          simpa [ruleC] using h
        replace cN1 := (hw3.cell (k := bN) (o := oN + 1) ltN (by omega)).trans cN1
        replace cP1 := (hw3.cell (k := bP) (o := oP + 1) ltP (by omega)).trans cP1
        replace ltN := Nat.lt_of_lt_of_le ltN hw3.size
        replace ltP := Nat.lt_of_lt_of_le ltP hw3.size
        clear hw3 hBu3 hyu3 hOu3
        clear x0 x1 x2 x3 f0 f1 f2 f3 xl
        generalize (u3.setCell ⟨G, 0, none⟩ (.int .i64 v0)) = w3 at *
        refine (k2 _).mono ?_
        rintro e u4 ⟨rfl, q4⟩
        have hBu4 := blw hB3 q4
        have hyu4 := hy3.below q4 hy3.lt
        have hOu4 := hO3.below q4 hO3.lt
        replace cN1 := (q4.cell (p := ⟨bN, oN + 1, none⟩) ltN).trans cN1
        replace cP1 := (q4.cell (p := ⟨bP, oP + 1, none⟩) ltP).trans cP1
        replace ltN := Nat.lt_of_lt_of_le ltN q4.size
        replace ltP := Nat.lt_of_lt_of_le ltP q4.size
        clear q4
        obtain ⟨x0, x1, x2, x3, f0, f1, f2, f3, xl⟩ := hOu4.ruleCs
        go_wp2_with fail
        have hw4 : Wr (fun q => q = G) u4 (u4.setCell ⟨G, 1, none⟩ (.int .i64 v1)) := Wr.setCell (p := ⟨G, 1, none⟩) (Wr.refl (fun q => q = G) u4) (.inl rfl) _
        have hB4 := hBu4.trans (hw4.below hBu4.size (fun k hk => by omega))
        have hy4 := hyu4.wr hw4 (by omega)
        have hO4 : Blk (u4.setCell ⟨G, 1, none⟩ (.int .i64 v1)) G 58 (ruleC v0 v1 0 av) := by
          have h := hOu4.set_ 1 (.int .i64 v1)
          simpa [ruleC] using h
        replace cN1 := (hw4.cell (k := bN) (o := oN + 1) ltN (by omega)).trans cN1
        replace cP1 := (hw4.cell (k := bP) (o := oP + 1) ltP (by omega)).trans cP1
        replace ltN := Nat.lt_of_lt_of_le ltN hw4.size
        replace ltP := Nat.lt_of_lt_of_le ltP hw4.size
        clear hw4 hBu4 hyu4 hOu4
        clear x0 x1 x2 x3 f0 f1 f2 f3 xl
        generalize (u4.setCell ⟨G, 1, none⟩ (.int .i64 v1)) = w4 at *
        refine (k3 _).mono ?_
        rintro e u5 ⟨rfl, q5⟩
        have hBu5 := blw hB4 q5
        have hyu5 := hy4.below q5 hy4.lt
        have hOu5 := hO4.below q5 hO4.lt
        replace cN1 := (q5.cell (p := ⟨bN, oN + 1, none⟩) ltN).trans cN1
        replace cP1 := (q5.cell (p := ⟨bP, oP + 1, none⟩) ltP).trans cP1
        replace ltN := Nat.lt_of_lt_of_le ltN q5.size
        replace ltP := Nat.lt_of_lt_of_le ltP q5.size
        clear q5
        obtain ⟨x0, x1, x2, x3, f0, f1, f2, f3, xl⟩ := hOu5.ruleCs
        obtain ⟨y0, y1, y2, y3, g0, g1, g2, g3, yl⟩ := hyu5.ruleCs
        have hne1 : ¬ w.heap.size = G := by omega
        have hne2 : ¬ G = w.heap.size := by omega
        go_wp2_with fail
        have hw5 : Wr (fun q => q = G) u5 (u5.setCell ⟨G, 2, none⟩ (.int .i64 v2)) := Wr.setCell (p := ⟨G, 2, none⟩) (Wr.refl (fun q => q = G) u5) (.inl rfl) _
        have hB5 := hBu5.trans (hw5.below hBu5.size (fun k hk => by omega))
        have hy5 := hyu5.wr hw5 (by omega)
        clear y0 y1 y2 y3 g0 g1 g2 g3 yl
        clear x0 x1 x2 x3 f0 f1 f2 f3 xl
        clear hw5 hBu5 hyu5 hOu5 cN1 cP1 ltN ltP
        generalize (u5.setCell ⟨G, 2, none⟩ (.int .i64 v2)) = w5 at *
        have hwf : Wr (fun q => q = w.heap.size) w5 ((((w5.setCell ⟨w.heap.size, 0, none⟩ (.int .i64 v0)).setCell ⟨w.heap.size, 1, none⟩ (.int .i64 v1)).setCell ⟨w.heap.size, 2, none⟩ (.int .i64 v2)).setCell ⟨w.heap.size, 3, none⟩ (.int .i64 av)) := (Wr.setCell (p := ⟨w.heap.size, 3, none⟩) (Wr.setCell (p := ⟨w.heap.size, 2, none⟩) (Wr.setCell (p := ⟨w.heap.size, 1, none⟩) (Wr.setCell (p := ⟨w.heap.size, 0, none⟩) (Wr.refl (fun q => q = w.heap.size) w5) (.inl rfl) (.int .i64 v0)) (.inl rfl) (.int .i64 v1)) (.inl rfl) (.int .i64 v2)) (.inl rfl) (.int .i64 av))
        have hyf : Blk ((((w5.setCell ⟨w.heap.size, 0, none⟩ (.int .i64 v0)).setCell ⟨w.heap.size, 1, none⟩ (.int .i64 v1)).setCell ⟨w.heap.size, 2, none⟩ (.int .i64 v2)).setCell ⟨w.heap.size, 3, none⟩ (.int .i64 av)) w.heap.size 58 (ruleC v0 v1 v2 av) := by
          have h := ((((hy5.set_ 0 (.int .i64 v0)).set_ 1 (.int .i64 v1)).set_ 2 (.int .i64 v2)).set_ 3 (.int .i64 av))
          simpa [ruleC] using h
        have hBf := hB5.trans (hwf.below hB5.size (fun k hk => Nat.le_of_eq hk.symm))
        clear hwf
        generalize ((((w5.setCell ⟨w.heap.size, 0, none⟩ (.int .i64 v0)).setCell ⟨w.heap.size, 1, none⟩ (.int .i64 v1)).setCell ⟨w.heap.size, 2, none⟩ (.int .i64 v2)).setCell ⟨w.heap.size, 3, none⟩ (.int .i64 av)) = wf at *
        obtain ⟨j0, j1, j2, j3, _, _, _, _, jl⟩ := hyf.ruleCs
        exact bodyPost_ret (v := .agg #[.int .i64 v0, .int .i64 v1, .int .i64 v2, .int .i64 av]) (by simp [results, Tryd.results32, go_sem, jl, j0, j1, j2, j3]) rfl ⟨by rw [Hq.out], hBf⟩
      · have Hq := Lib.hid (rulQ_bad (x := x) (by rw [HPe.out, HNe.out]; exact e2))
        rcases (show ¬ (P.length : Int) = 2 ∨ ((P.length : Int) = 2 ∧ ¬ (N.length : Int) = 2) by
          by_cases h1 : P.length = 2
          · exact .inr ⟨by omega, fun h => e2 ⟨h1, by omega⟩⟩
          · exact .inl (by omega)) with r1 | ⟨r1, r2⟩
        · clear e2
          obtain ⟨y0, y1, y2, y3, g0, g1, g2, g3, yl⟩ := hy2.ruleCs
          go_wp2_with fail
          have hwf : Wr (fun q => q = w.heap.size) w2 ((((w2.setCell ⟨w.heap.size, 0, none⟩ (.int .i64 0)).setCell ⟨w.heap.size, 1, none⟩ (.int .i64 0)).setCell ⟨w.heap.size, 2, none⟩ (.int .i64 0)).setCell ⟨w.heap.size, 3, none⟩ (.int .i64 0)) := (Wr.setCell (p := ⟨w.heap.size, 3, none⟩) (Wr.setCell (p := ⟨w.heap.size, 2, none⟩) (Wr.setCell (p := ⟨w.heap.size, 1, none⟩) (Wr.setCell (p := ⟨w.heap.size, 0, none⟩) (Wr.refl (fun q => q = w.heap.size) w2) (.inl rfl) (.int .i64 0)) (.inl rfl) (.int .i64 0)) (.inl rfl) (.int .i64 0)) (.inl rfl) (.int .i64 0))
          have hyf : Blk ((((w2.setCell ⟨w.heap.size, 0, none⟩ (.int .i64 0)).setCell ⟨w.heap.size, 1, none⟩ (.int .i64 0)).setCell ⟨w.heap.size, 2, none⟩ (.int .i64 0)).setCell ⟨w.heap.size, 3, none⟩ (.int .i64 0)) w.heap.size 58 (ruleC 0 0 0 0) := by
            have h := ((((hy2.set_ 0 (.int .i64 0)).set_ 1 (.int .i64 0)).set_ 2 (.int .i64 0)).set_ 3 (.int .i64 0))
            simpa [ruleC] using h
          have hBf := hB2.trans (hwf.below hB2.size (fun k hk => Nat.le_of_eq hk.symm))
          clear hwf
          generalize ((((w2.setCell ⟨w.heap.size, 0, none⟩ (.int .i64 0)).setCell ⟨w.heap.size, 1, none⟩ (.int .i64 0)).setCell ⟨w.heap.size, 2, none⟩ (.int .i64 0)).setCell ⟨w.heap.size, 3, none⟩ (.int .i64 0)) = wf at *
          obtain ⟨j0, j1, j2, j3, _, _, _, _, jl⟩ := hyf.ruleCs
          exact bodyPost_ret (v := .agg #[.int .i64 0, .int .i64 0, .int .i64 0, .int .i64 0]) (by simp [results, Tryd.results32, go_sem, jl, j0, j1, j2, j3]) rfl ⟨by rw [Hq.out], hBf⟩
        · clear e2
          obtain ⟨y0, y1, y2, y3, g0, g1, g2, g3, yl⟩ := hy2.ruleCs
          go_wp2_with fail
          have hwf : Wr (fun q => q = w.heap.size) w2 ((((w2.setCell ⟨w.heap.size, 0, none⟩ (.int .i64 0)).setCell ⟨w.heap.size, 1, none⟩ (.int .i64 0)).setCell ⟨w.heap.size, 2, none⟩ (.int .i64 0)).setCell ⟨w.heap.size, 3, none⟩ (.int .i64 0)) := (Wr.setCell (p := ⟨w.heap.size, 3, none⟩) (Wr.setCell (p := ⟨w.heap.size, 2, none⟩) (Wr.setCell (p := ⟨w.heap.size, 1, none⟩) (Wr.setCell (p := ⟨w.heap.size, 0, none⟩) (Wr.refl (fun q => q = w.heap.size) w2) (.inl rfl) (.int .i64 0)) (.inl rfl) (.int .i64 0)) (.inl rfl) (.int .i64 0)) (.inl rfl) (.int .i64 0))
          have hyf : Blk ((((w2.setCell ⟨w.heap.size, 0, none⟩ (.int .i64 0)).setCell ⟨w.heap.size, 1, none⟩ (.int .i64 0)).setCell ⟨w.heap.size, 2, none⟩ (.int .i64 0)).setCell ⟨w.heap.size, 3, none⟩ (.int .i64 0)) w.heap.size 58 (ruleC 0 0 0 0) := by
            have h := ((((hy2.set_ 0 (.int .i64 0)).set_ 1 (.int .i64 0)).set_ 2 (.int .i64 0)).set_ 3 (.int .i64 0))
            simpa [ruleC] using h
          have hBf := hB2.trans (hwf.below hB2.size (fun k hk => Nat.le_of_eq hk.symm))
          clear hwf
          generalize ((((w2.setCell ⟨w.heap.size, 0, none⟩ (.int .i64 0)).setCell ⟨w.heap.size, 1, none⟩ (.int .i64 0)).setCell ⟨w.heap.size, 2, none⟩ (.int .i64 0)).setCell ⟨w.heap.size, 3, none⟩ (.int .i64 0)) = wf at *
          obtain ⟨j0, j1, j2, j3, _, _, _, _, jl⟩ := hyf.ruleCs
          exact bodyPost_ret (v := .agg #[.int .i64 0, .int .i64 0, .int .i64 0, .int .i64 0]) (by simp [results, Tryd.results32, go_sem, jl, j0, j1, j2, j3]) rfl ⟨by rw [Hq.out], hBf⟩
    · have hB0 : Below w.heap.size w ((w.alloc (.cells #[.int .i64 0, .int .i64 0, .int .i64 0, .int .i64 0] 58)).alloc (.cells #[.int .i64 0, .int .i64 0, .int .i64 0, .int .i64 0] 58)) := blw_alloc (blw_alloc (Below.refl _ _) _) _
      have hy0 : Blk ((w.alloc (.cells #[.int .i64 0, .int .i64 0, .int .i64 0, .int .i64 0] 58)).alloc (.cells #[.int .i64 0, .int .i64 0, .int .i64 0, .int .i64 0] 58)) w.heap.size 58 (ruleC 0 0 0 0) := (Blk.new w 58 #[.int .i64 0, .int .i64 0, .int .i64 0, .int .i64 0]).alloc _
      have hO0 : Blk ((w.alloc (.cells #[.int .i64 0, .int .i64 0, .int .i64 0, .int .i64 0] 58)).alloc (.cells #[.int .i64 0, .int .i64 0, .int .i64 0, .int .i64 0] 58)) (w.heap.size + 1) 58 (ruleC 0 0 0 0) := by
        have h := Blk.new (w.alloc (.cells #[.int .i64 0, .int .i64 0, .int .i64 0, .int .i64 0] 58)) 58 (ruleC 0 0 0 0)
        rw [World.size_alloc] at h
        exact h
      go_enter Tryd.func32, Tryd.ntmps32
      go_wp2_with fail
      change Calls Tryd.prog 20 #[.string (x.extract 0 m), .int .u8 (43 : UInt8).toNat] ((w.alloc (.cells #[.int .i64 0, .int .i64 0, .int .i64 0, .int .i64 0] 58)).alloc (.cells #[.int .i64 0, .int .i64 0, .int .i64 0, .int .i64 0] 58)) _
      generalize ((w.alloc (.cells #[.int .i64 0, .int .i64 0, .int .i64 0, .int .i64 0] 58)).alloc (.cells #[.int .i64 0, .int .i64 0, .int .i64 0, .int .i64 0] 58)) = w0 at *
      replace hO0 : Blk w0 (w.heap.size + 1) 58 (ruleC 0 0 0 (actQ b)) := by rw [ha]; exact hO0
      clear h1 ha hxm h2 h3
      generalize hac : actQ b = av at *
      have Hac := Lib.hid hac
      clear hac
      refine (l1Split_any (x.extract 0 m) 43 w0 (by omega)).mono ?_
      rintro e w1 ⟨A1, c1, rfl, hv1, q1⟩
      rw [← HP.out] at hv1
      simp only [← HP.out]
      have hB1 := blw hB0 q1
      have hy1 := hy0.below q1 hy0.lt
      have hO1 := hO0.below q1 hO0.lt
      have hl1 := hv1.ls encStr_len
      have hG0 := hO0.lt
      have hz1 := q1.size
      have hbP := fun b (hb : blkOf A1 b) => (hv1.block hb).1
      obtain ⟨bP, oP, rfl, ltP, cP0⟩ := hl1.at_String hPp
      rw [← HY.out, Nat.add_zero] at cP0
      go_wp2_with fail
      change Calls Tryd.prog 20 #[.string y, .int .u8 (46 : UInt8).toNat] w1 _
      refine (l1Split_any y 46 w1 (by omega)).mono ?_
      rintro e w2 ⟨A2, c2, rfl, hv2, q2⟩
      rw [← HN.out] at hv2
      simp only [← HN.out]
      have hB2 := blw hB1 q2
      have hy2 := hy1.below q2 hy1.lt
      have hO2 := hO1.below q2 hO1.lt
      have hl2 := hv2.ls encStr_len
      have hPG : w.heap.size + 1 < bP := Nat.lt_of_lt_of_le hG0 (hbP bP ⟨oP, rfl⟩)
      have hbN := fun b (hb : blkOf A2 b) => (hv2.block hb).1
      replace hl1 := (hl1.below q2).more q2.size
      clear hbP cP0 ltP q1 q2 hv1 hv2 hy0 hO0 hB0 hy1 hO1 hB1
      by_cases e2 : P.length = 2 ∧ N.length = 2
      · obtain ⟨e21, e22⟩ := e2
        have r1 : (P.length : Int) = 2 := by omega
        have r2 : (N.length : Int) = 2 := by omega
        obtain ⟨n0, hn0⟩ : ∃ z, z = N[0] := ⟨_, rfl⟩
        obtain ⟨n1, hn1⟩ : ∃ z, z = N[1]'(by omega) := ⟨_, rfl⟩
        obtain ⟨p1, hp1⟩ : ∃ z, z = P[1]'(by omega) := ⟨_, rfl⟩
        have zn0 : n0.size ≤ x.size := by rw [hn0]; exact Nat.le_trans (Hnm.out _ (List.getElem_mem _)) hyz
        have zn1 : n1.size ≤ x.size := by rw [hn1]; exact Nat.le_trans (Hnm.out _ (List.getElem_mem _)) hyz
        have zp1 : p1.size ≤ x.size := by rw [hp1]; exact Nat.le_trans (Hpm.out _ (List.getElem_mem _)) hez
        have Hq := Lib.hid (show rulQ x = ⟨rdI n0, rdI n1, rdI p1, av⟩ by
          rw [rulQ_fit h0 (by rw [HPe.out, HNe.out]; exact ⟨e21, e22⟩), HPe.out, HNe.out, getD_get hNp, getD_get (l := N) (i := 1) (by omega), getD_get (l := P) (i := 1) (by omega), Hlb.out, Hac.out, ← hn0, ← hn1, ← hp1])
        have k1 : ∀ W', Calls Tryd.prog 21 #[.string n0] W' fun e w' => e = .returned (.tuple #[.int .i64 (rdI n0), .bool (readB n0.data.toList)]) ∧ Below W'.heap.size W' w' := fun W' => l1Read_any n0 W' (by omega)
        have k2 : ∀ W', Calls Tryd.prog 21 #[.string n1] W' fun e w' => e = .returned (.tuple #[.int .i64 (rdI n1), .bool (readB n1.data.toList)]) ∧ Below W'.heap.size W' w' := fun W' => l1Read_any n1 W' (by omega)
        have k3 : ∀ W', Calls Tryd.prog 21 #[.string p1] W' fun e w' => e = .returned (.tuple #[.int .i64 (rdI p1), .bool (readB p1.data.toList)]) ∧ Below W'.heap.size W' w' := fun W' => l1Read_any p1 W' (by omega)
        obtain ⟨bP', oP', eP, ltP, cP1⟩ := hl1.at_String (show 1 < P.length by omega)
        cases eP
        obtain ⟨bN, oN, rfl, ltN, cN0⟩ := hl2.at_String hNp
        obtain ⟨bN', oN', eN, ltN', cN1⟩ := hl2.at_String (show 1 < N.length by omega)
        cases eN
        have hNG : w.heap.size + 1 < bN := by have := hbN bN ⟨oN, rfl⟩; omega
        rw [← hn0, Nat.add_zero] at cN0
        rw [← hn1] at cN1
        rw [← hp1] at cP1
        clear hn0 hn1 hp1 ltN' hl1 hl2 hbN
        generalize rdI n0 = v0 at *
        generalize rdI n1 = v1 at *
        generalize rdI p1 = v2 at *
        have hGl := hO2.lt
        have hGw : w.heap.size < w.heap.size + 1 := by omega
        generalize hG : w.heap.size + 1 = G at *
        go_wp2_with fail
        refine (k1 _).mono ?_
        rintro e u3 ⟨rfl, q3⟩
        have hBu3 := blw hB2 q3
        have hyu3 := hy2.below q3 hy2.lt
        have hOu3 := hO2.below q3 hO2.lt
        replace cN1 := (q3.cell (p := ⟨bN, oN + 1, none⟩) ltN).trans cN1
        replace cP1 := (q3.cell (p := ⟨bP, oP + 1, none⟩) ltP).trans cP1
        replace ltN := Nat.lt_of_lt_of_le ltN q3.size
        replace ltP := Nat.lt_of_lt_of_le ltP q3.size
        clear q3
        obtain ⟨x0, x1, x2, x3, f0, f1, f2, f3, xl⟩ := hOu3.ruleCs
        go_wp2_with fail
        have hw3 : Wr (fun q => q = G) u3 (u3.setCell ⟨G, 0, none⟩ (.int .i64 v0)) := Wr.setCell (p := ⟨G, 0, none⟩) (Wr.refl (fun q => q = G) u3) (.inl rfl) _
        have hB3 := hBu3.trans (hw3.below hBu3.size (fun k hk => by omega))
        have hy3 := hyu3.wr hw3 (by omega)
        have hO3 : Blk (u3.setCell ⟨G, 0, none⟩ (.int .i64 v0)) G 58 (ruleC v0 0 0 av) := by
          have h := hOu3.set_ 0 (.int .i64 v0)
          simpa [ruleC] using h
        replace cN1 := (hw3.cell (k := bN) (o := oN + 1) ltN (by omega)).trans cN1
        replace cP1 := (hw3.cell (k := bP) (o := oP + 1) ltP (by omega)).trans cP1
        replace ltN := Nat.lt_of_lt_of_le ltN hw3.size
        replace ltP := Nat.lt_of_lt_of_le ltP hw3.size
        clear hw3 hBu3 hyu3 hOu3
        clear x0 x1 x2 x3 f0 f1 f2 f3 xl
        generalize (u3.setCell ⟨G, 0, none⟩ (.int .i64 v0)) = w3 at *
        refine (k2 _).mono ?_
        rintro e u4 ⟨rfl, q4⟩
        have hBu4 := blw hB3 q4
        have hyu4 := hy3.below q4 hy3.lt
        have hOu4 := hO3.below q4 hO3.lt
        replace cN1 := (q4.cell (p := ⟨bN, oN + 1, none⟩) ltN).trans cN1
        replace cP1 := (q4.cell (p := ⟨bP, oP + 1, none⟩) ltP).trans cP1
        replace ltN := Nat.lt_of_lt_of_le ltN q4.size
        replace ltP := Nat.lt_of_lt_of_le ltP q4.size
        clear q4
        obtain ⟨x0, x1, x2, x3, f0, f1, f2, f3, xl⟩ := hOu4.ruleCs
        go_wp2_with fail
        have hw4 : Wr (fun q => q = G) u4 (u4.setCell ⟨G, 1, none⟩ (.int .i64 v1)) := Wr.setCell (p := ⟨G, 1, none⟩) (Wr.refl (fun q => q = G) u4) (.inl rfl) _
        have hB4 := hBu4.trans (hw4.below hBu4.size (fun k hk => by omega))
        have hy4 := hyu4.wr hw4 (by omega)
        have hO4 : Blk (u4.setCell ⟨G, 1, none⟩ (.int .i64 v1)) G 58 (ruleC v0 v1 0 av) := by
          have h := hOu4.set_ 1 (.int .i64 v1)
          simpa [ruleC] using h
        replace cN1 := (hw4.cell (k := bN) (o := oN + 1) ltN (by omega)).trans cN1
        replace cP1 := (hw4.cell (k := bP) (o := oP + 1) ltP (by omega)).trans cP1
        replace ltN := Nat.lt_of_lt_of_le ltN hw4.size
        replace ltP := Nat.lt_of_lt_of_le ltP hw4.size
        clear hw4 hBu4 hyu4 hOu4
        clear x0 x1 x2 x3 f0 f1 f2 f3 xl
        generalize (u4.setCell ⟨G, 1, none⟩ (.int .i64 v1)) = w4 at *
        refine (k3 _).mono ?_
        rintro e u5 ⟨rfl, q5⟩
        have hBu5 := blw hB4 q5
        have hyu5 := hy4.below q5 hy4.lt
        have hOu5 := hO4.below q5 hO4.lt
        replace cN1 := (q5.cell (p := ⟨bN, oN + 1, none⟩) ltN).trans cN1
        replace cP1 := (q5.cell (p := ⟨bP, oP + 1, none⟩) ltP).trans cP1
        replace ltN := Nat.lt_of_lt_of_le ltN q5.size
        replace ltP := Nat.lt_of_lt_of_le ltP q5.size
        clear q5
        obtain ⟨x0, x1, x2, x3, f0, f1, f2, f3, xl⟩ := hOu5.ruleCs
        obtain ⟨y0, y1, y2, y3, g0, g1, g2, g3, yl⟩ := hyu5.ruleCs
        have hne1 : ¬ w.heap.size = G := by omega
        have hne2 : ¬ G = w.heap.size := by omega
        go_wp2_with fail
        have hw5 : Wr (fun q => q = G) u5 (u5.setCell ⟨G, 2, none⟩ (.int .i64 v2)) := Wr.setCell (p := ⟨G, 2, none⟩) (Wr.refl (fun q => q = G) u5) (.inl rfl) _
        have hB5 := hBu5.trans (hw5.below hBu5.size (fun k hk => by omega))
        have hy5 := hyu5.wr hw5 (by omega)
        clear y0 y1 y2 y3 g0 g1 g2 g3 yl
        clear x0 x1 x2 x3 f0 f1 f2 f3 xl
        clear hw5 hBu5 hyu5 hOu5 cN1 cP1 ltN ltP
        generalize (u5.setCell ⟨G, 2, none⟩ (.int .i64 v2)) = w5 at *
        have hwf : Wr (fun q => q = w.heap.size) w5 ((((w5.setCell ⟨w.heap.size, 0, none⟩ (.int .i64 v0)).setCell ⟨w.heap.size, 1, none⟩ (.int .i64 v1)).setCell ⟨w.heap.size, 2, none⟩ (.int .i64 v2)).setCell ⟨w.heap.size, 3, none⟩ (.int .i64 av)) := (Wr.setCell (p := ⟨w.heap.size, 3, none⟩) (Wr.setCell (p := ⟨w.heap.size, 2, none⟩) (Wr.setCell (p := ⟨w.heap.size, 1, none⟩) (Wr.setCell (p := ⟨w.heap.size, 0, none⟩) (Wr.refl (fun q => q = w.heap.size) w5) (.inl rfl) (.int .i64 v0)) (.inl rfl) (.int .i64 v1)) (.inl rfl) (.int .i64 v2)) (.inl rfl) (.int .i64 av))
        have hyf : Blk ((((w5.setCell ⟨w.heap.size, 0, none⟩ (.int .i64 v0)).setCell ⟨w.heap.size, 1, none⟩ (.int .i64 v1)).setCell ⟨w.heap.size, 2, none⟩ (.int .i64 v2)).setCell ⟨w.heap.size, 3, none⟩ (.int .i64 av)) w.heap.size 58 (ruleC v0 v1 v2 av) := by
          have h := ((((hy5.set_ 0 (.int .i64 v0)).set_ 1 (.int .i64 v1)).set_ 2 (.int .i64 v2)).set_ 3 (.int .i64 av))
          simpa [ruleC] using h
        have hBf := hB5.trans (hwf.below hB5.size (fun k hk => Nat.le_of_eq hk.symm))
        clear hwf
        generalize ((((w5.setCell ⟨w.heap.size, 0, none⟩ (.int .i64 v0)).setCell ⟨w.heap.size, 1, none⟩ (.int .i64 v1)).setCell ⟨w.heap.size, 2, none⟩ (.int .i64 v2)).setCell ⟨w.heap.size, 3, none⟩ (.int .i64 av)) = wf at *
        obtain ⟨j0, j1, j2, j3, _, _, _, _, jl⟩ := hyf.ruleCs
        exact bodyPost_ret (v := .agg #[.int .i64 v0, .int .i64 v1, .int .i64 v2, .int .i64 av]) (by simp [results, Tryd.results32, go_sem, jl, j0, j1, j2, j3]) rfl ⟨by rw [Hq.out], hBf⟩
      · have Hq := Lib.hid (rulQ_bad (x := x) (by rw [HPe.out, HNe.out]; exact e2))
        rcases (show ¬ (P.length : Int) = 2 ∨ ((P.length : Int) = 2 ∧ ¬ (N.length : Int) = 2) by
          by_cases h1 : P.length = 2
          · exact .inr ⟨by omega, fun h => e2 ⟨h1, by omega⟩⟩
          · exact .inl (by omega)) with r1 | ⟨r1, r2⟩
        · clear e2
          obtain ⟨y0, y1, y2, y3, g0, g1, g2, g3, yl⟩ := hy2.ruleCs
          go_wp2_with fail
          have hwf : Wr (fun q => q = w.heap.size) w2 ((((w2.setCell ⟨w.heap.size, 0, none⟩ (.int .i64 0)).setCell ⟨w.heap.size, 1, none⟩ (.int .i64 0)).setCell ⟨w.heap.size, 2, none⟩ (.int .i64 0)).setCell ⟨w.heap.size, 3, none⟩ (.int .i64 0)) := (Wr.setCell (p := ⟨w.heap.size, 3, none⟩) (Wr.setCell (p := ⟨w.heap.size, 2, none⟩) (Wr.setCell (p := ⟨w.heap.size, 1, none⟩) (Wr.setCell (p := ⟨w.heap.size, 0, none⟩) (Wr.refl (fun q => q = w.heap.size) w2) (.inl rfl) (.int .i64 0)) (.inl rfl) (.int .i64 0)) (.inl rfl) (.int .i64 0)) (.inl rfl) (.int .i64 0))
          have hyf : Blk ((((w2.setCell ⟨w.heap.size, 0, none⟩ (.int .i64 0)).setCell ⟨w.heap.size, 1, none⟩ (.int .i64 0)).setCell ⟨w.heap.size, 2, none⟩ (.int .i64 0)).setCell ⟨w.heap.size, 3, none⟩ (.int .i64 0)) w.heap.size 58 (ruleC 0 0 0 0) := by
            have h := ((((hy2.set_ 0 (.int .i64 0)).set_ 1 (.int .i64 0)).set_ 2 (.int .i64 0)).set_ 3 (.int .i64 0))
            simpa [ruleC] using h
          have hBf := hB2.trans (hwf.below hB2.size (fun k hk => Nat.le_of_eq hk.symm))
          clear hwf
          generalize ((((w2.setCell ⟨w.heap.size, 0, none⟩ (.int .i64 0)).setCell ⟨w.heap.size, 1, none⟩ (.int .i64 0)).setCell ⟨w.heap.size, 2, none⟩ (.int .i64 0)).setCell ⟨w.heap.size, 3, none⟩ (.int .i64 0)) = wf at *
          obtain ⟨j0, j1, j2, j3, _, _, _, _, jl⟩ := hyf.ruleCs
          exact bodyPost_ret (v := .agg #[.int .i64 0, .int .i64 0, .int .i64 0, .int .i64 0]) (by simp [results, Tryd.results32, go_sem, jl, j0, j1, j2, j3]) rfl ⟨by rw [Hq.out], hBf⟩
        · clear e2
          obtain ⟨y0, y1, y2, y3, g0, g1, g2, g3, yl⟩ := hy2.ruleCs
          go_wp2_with fail
          have hwf : Wr (fun q => q = w.heap.size) w2 ((((w2.setCell ⟨w.heap.size, 0, none⟩ (.int .i64 0)).setCell ⟨w.heap.size, 1, none⟩ (.int .i64 0)).setCell ⟨w.heap.size, 2, none⟩ (.int .i64 0)).setCell ⟨w.heap.size, 3, none⟩ (.int .i64 0)) := (Wr.setCell (p := ⟨w.heap.size, 3, none⟩) (Wr.setCell (p := ⟨w.heap.size, 2, none⟩) (Wr.setCell (p := ⟨w.heap.size, 1, none⟩) (Wr.setCell (p := ⟨w.heap.size, 0, none⟩) (Wr.refl (fun q => q = w.heap.size) w2) (.inl rfl) (.int .i64 0)) (.inl rfl) (.int .i64 0)) (.inl rfl) (.int .i64 0)) (.inl rfl) (.int .i64 0))
          have hyf : Blk ((((w2.setCell ⟨w.heap.size, 0, none⟩ (.int .i64 0)).setCell ⟨w.heap.size, 1, none⟩ (.int .i64 0)).setCell ⟨w.heap.size, 2, none⟩ (.int .i64 0)).setCell ⟨w.heap.size, 3, none⟩ (.int .i64 0)) w.heap.size 58 (ruleC 0 0 0 0) := by
            have h := ((((hy2.set_ 0 (.int .i64 0)).set_ 1 (.int .i64 0)).set_ 2 (.int .i64 0)).set_ 3 (.int .i64 0))
            simpa [ruleC] using h
          have hBf := hB2.trans (hwf.below hB2.size (fun k hk => Nat.le_of_eq hk.symm))
          clear hwf
          generalize ((((w2.setCell ⟨w.heap.size, 0, none⟩ (.int .i64 0)).setCell ⟨w.heap.size, 1, none⟩ (.int .i64 0)).setCell ⟨w.heap.size, 2, none⟩ (.int .i64 0)).setCell ⟨w.heap.size, 3, none⟩ (.int .i64 0)) = wf at *
          obtain ⟨j0, j1, j2, j3, _, _, _, _, jl⟩ := hyf.ruleCs
          exact bodyPost_ret (v := .agg #[.int .i64 0, .int .i64 0, .int .i64 0, .int .i64 0]) (by simp [results, Tryd.results32, go_sem, jl, j0, j1, j2, j3]) rfl ⟨by rw [Hq.out], hBf⟩

end Go.Proofs.YtopfcfedcmpamaaDoor
