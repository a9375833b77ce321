/- Contracts: ParseRecord of the program. -/
import Derived.Test.YtopfcfedcmpamaaDoorW7c
import Derived.Test.YtopfcfedcmpamaaDoorW7d
import Derived.Test.YtopfcfedcmpamaaDoorSq
import Derived.Test.YtopfcfedcmpamaaDoorV
import Derived.Test.YtopfcfedcmpamaaDoorSg
import Derived.Deep.RegionHeld3
namespace Go.Proofs.YtopfcfedcmpamaaDoor
set_option linter.unusedVariables false
set_option linter.unusedSimpArgs false
open Go.RowKit Go.Shelf
attribute [local go_sem] Aft.cell

theorem Cut_any (s : ByteArray) (b : UInt8) (w : World) (hs : s.size ≤ 1048576) (hm : Ml w) :
    Calls Tryd.prog 24 #[.string s, .string ⟨#[b]⟩] w fun e w' => e = .returned (.tuple #[.string (cF b s), .string (cS b s), .bool (cB b s)]) ∧ Below w.heap.size w w' := by
  obtain ⟨m, hm⟩ := hm
  refine (Any.strings_Cut Tryd.lays145 s ⟨#[b]⟩ m w (by omega) hm).mono ?_
  rintro e w' ⟨rfl, n, rfl⟩
  exact ⟨rfl, below_drewN (Below.refl _ _) n⟩


attribute [local go_sem] Oper.semAt_some
theorem Blk.putObj {w : World} {g : Nat} {t : TypeId} {cs : Array Value} (h : Blk w g t cs) {D : Nat} (o : Obj) (hg : g ≠ D) : Blk (w.putObj D o) g t cs := (World.putObj_heap_other hg).trans h
theorem marks_ret0 {P : Program} {fn : Func} {tmps : Array Value} {W : World} {R : Ending → World → Prop} (h : ∃ v, (results fn tmps).run P W = .ok v W ∧ R (.returned v) W) : bodyPostM Fence.wide 0 P fn R .ret { tmps, defers := [] } W := h
theorem marks_ret1 {P : Program} {fn : Func} {tmps : Array Value} {D : Nat} {W : World} {R : Ending → World → Prop} (hk : W.heap[D]? = some (.deferred (some [])))
    (h : ∃ v, (results fn tmps).run P (W.putObj D (.deferred none)) = .ok v (W.putObj D (.deferred none)) ∧ R (.returned v) (W.putObj D (.deferred none))) :
    bodyPostM Fence.wide 0 P fn R .ret { tmps, defers := [{ target := .collected D, args := #[] }] } W :=
  ⟨by simp, .inl ⟨_, _, rfl, run_takeDeferred hk, h⟩⟩
theorem ok_no {s : ByteArray} {l : List Ev} (hE : pEvs s = l) (h : recB (pId s) (pSer s) (pMade s) l = false ∨ ¬ recTx (pId s) (pSer s) (pMade s) l = s) : okR s = false ∧ keepE (okR s) (pEvs s) = [] := by
  have h1 : okR s = false := by
    unfold okR
    rw [hE]
    rcases h with h | h <;> simp [h]
  exact ⟨h1, by simp [keepE, h1]⟩
theorem ok_yes {s : ByteArray} {l : List Ev} (hE : pEvs s = l) (h : recB (pId s) (pSer s) (pMade s) l = true) (h2 : recTx (pId s) (pSer s) (pMade s) l = s) : okR s = true ∧ keepE (okR s) (pEvs s) = l := by
  have h1 : okR s = true := by
    unfold okR
    rw [hE, h, h2]
    simp
  exact ⟨h1, by simp [keepE, h1, hE]⟩

set_option maxRecDepth 100000 in
set_option maxHeartbeats 4000000 in
theorem c_impl_ParseRecord (s : ByteArray) (w : World) (hs : s.size ≤ 1048576) (ht : Tab w) (hm : Ml w) :
    Calls Tryd.prog 7 #[.string s] w (RetRB w (keepI (okR s) (pId s)) (keepI (okR s) (pSer s)) (keepI (okR s) (pMade s)) (keepE (okR s) (pEvs s)) (okR s)) := by
  have d1 : ∀ W, Calls Tryd.prog 25 #[.string (cF 115 (cF 32 s))] W fun e w' => e = .returned (.int .i64 (pId s)) ∧ Below W.heap.size W w' := fun W => digitsOf_any _ W (by have := cF_size 115 (cF 32 s); have := cF_size 32 s; omega)
  have d2 : ∀ W, Calls Tryd.prog 25 #[.string (cF 64 (cS 115 (cF 32 s)))] W fun e w' => e = .returned (.int .i64 (pSer s)) ∧ Below W.heap.size W w' := fun W => digitsOf_any _ W (by have := cF_size 64 (cS 115 (cF 32 s)); have := cS_size 115 (cF 32 s); have := cF_size 32 s; omega)
  have d3 : ∀ W, Calls Tryd.prog 25 #[.string (cS 64 (cS 115 (cF 32 s)))] W fun e w' => e = .returned (.int .i64 (pMade s)) ∧ Below W.heap.size W w' := fun W => digitsOf_any _ W (by have := cS_size 64 (cS 115 (cF 32 s)); have := cS_size 115 (cF 32 s); have := cF_size 32 s; omega)
  have z1 := cF_size 32 s
  have z2 := cS_size 115 (cF 32 s)
  have z3 := cS_size 32 s
  have hB0 := blw_alloc (Below.refl w.heap.size w) (.cells (cellsT 0 0 0 (.slice none 0 0)) 24)
  have hy0 : Blk (w.alloc (.cells (cellsT 0 0 0 (.slice none 0 0)) 24)) w.heap.size 24 (cellsT 0 0 0 (.slice none 0 0)) := Blk.new _ _ _
  have hm0 := ml_below hm hB0
  cases hc : cB 32 s
  · have HE := Lib.hid (show pEvs s = [] by simp [pEvs, hc])
    refine calls_of_marks Tryd.func7 rfl ?_
    simp only [Tryd.ntmps7, List.size_toArray, List.length_cons, List.length_nil, Nat.reduceAdd, Nat.reduceSub, Array.replicate_succ, Array.replicate_zero, List.push_toArray, List.append_toArray, List.nil_append, List.cons_append]
    go_wp2_with fail
    change Calls Tryd.prog 24 _ (w.alloc (.cells (cellsT 0 0 0 (.slice none 0 0)) 24)) _
    generalize w.alloc (.cells (cellsT 0 0 0 (.slice none 0 0)) 24) = W0 at *
    refine (Cut_any s 32 _ hs hm0).mono ?_
    rintro e w1 ⟨rfl, q1⟩
    have hB1 := blw hB0 q1
    have hy1 := hy0.below q1 hy0.lt
    have hm1 := ml_below hm0 q1
    go_wp2_with fail
    refine (Cut_any (cF 32 s) 115 _ (by omega) hm1).mono ?_
    rintro e w2 ⟨rfl, q2⟩
    have hB2 := blw hB1 q2
    have hy2 := hy1.below q2 hy1.lt
    have hm2 := ml_below hm1 q2
    go_wp2_with fail
    refine (Cut_any (cS 115 (cF 32 s)) 64 _ (by omega) hm2).mono ?_
    rintro e w3 ⟨rfl, q3⟩
    have hB3 := blw hB2 q3
    have hy3 := hy2.below q3 hy2.lt
    have hm3 := ml_below hm2 q3
    go_wp2_with fail
    refine (d1 _).mono ?_
    rintro e w4 ⟨rfl, q4⟩
    have hB4 := blw hB3 q4
    have hy4 := hy3.below q4 hy3.lt
    have hm4 := ml_below hm3 q4
    go_wp2_with fail
    refine (d2 _).mono ?_
    rintro e w5 ⟨rfl, q5⟩
    have hB5 := blw hB4 q5
    have hy5 := hy4.below q5 hy4.lt
    have hm5 := ml_below hm4 q5
    go_wp2_with fail
    refine (d3 _).mono ?_
    rintro e w6 ⟨rfl, q6⟩
    have hB6 := blw hB5 q6
    have hy6 := hy5.below q6 hy5.lt
    have hm6 := ml_below hm5 q6
    have hz6 : w.heap.size < w6.heap.size := hy6.lt
    have hr7 := Blk.new w6 24 (cellsT (pId s) (pSer s) (pMade s) (.slice none 0 0))
    have hB7 := blw_alloc hB6 (.cells (cellsT (pId s) (pSer s) (pMade s) (.slice none 0 0)) 24)
    have hy7 := hy6.alloc (.cells (cellsT (pId s) (pSer s) (pMade s) (.slice none 0 0)) 24)
    have hz7 : (w6.alloc (.cells (cellsT (pId s) (pSer s) (pMade s) (.slice none 0 0)) 24)).heap.size = w6.heap.size + 1 := by simp
    have hv7 : Hid (Vec (w6.alloc (.cells (cellsT (pId s) (pSer s) (pMade s) (.slice none 0 0)) 24)) (w.heap.size + 1) 46 encEv 2 (.slice none 0 0) ([] : List Ev)) := Vec.nil
    go_wp2_with fail
    change Calls Tryd.prog 27 _ (w6.alloc (.cells (cellsT (pId s) (pSer s) (pMade s) (.slice none 0 0)) 24)) _
    generalize (w6.alloc (.cells (cellsT (pId s) (pSer s) (pMade s) (.slice none 0 0)) 24)) = w7 at *
    obtain ⟨x0, x1, x2, x3, f0, f1, f2, f3, xl⟩ := hr7.cellsT
    cases h1 : recB (pId s) (pSer s) (pMade s) ([] : List Ev)
    · have Hv := Lib.hid (ok_no HE.out (.inl h1))
      refine (IsRecord_any _ _ _ none 0 ([] : List Ev) _ Ls.none_ (Nat.zero_le _)).mono ?_
      rw [h1]
      rintro e wa ⟨rfl, qa⟩
      have hBa := blw hB7 qa
      have hya := hy7.below qa hy7.lt
      have hra := hr7.below qa hr7.lt
      have hva := Lib.hid (hv7.out.on qa)
      have Hqa := Lib.hid qa
      clear qa
      clear x0 x1 x2 x3 f0 f1 f2 f3 xl
      obtain ⟨y0, y1, y2, y3, g0, g1, g2, g3, yl⟩ := hya.cellsT
      go_wp2_with fail
      have hwf : Wr (fun q => q = w.heap.size) wa ((((wa.setCell ⟨w.heap.size, 0, none⟩ (.int .i64 0)).setCell ⟨w.heap.size, 1, none⟩ (.int .i64 0)).setCell ⟨w.heap.size, 2, none⟩ (.int .i64 0)).setCell ⟨w.heap.size, 3, none⟩ (.slice none 0 0)) := (Wr.setCell (p := ⟨w.heap.size, 3, none⟩) (Wr.setCell (p := ⟨w.heap.size, 2, none⟩) (Wr.setCell (p := ⟨w.heap.size, 1, none⟩) (Wr.setCell (p := ⟨w.heap.size, 0, none⟩) (Wr.refl (fun q => q = w.heap.size) wa) (.inl rfl) (.int .i64 0)) (.inl rfl) (.int .i64 0)) (.inl rfl) (.int .i64 0)) (.inl rfl) (.slice none 0 0))
      have hyf : Blk ((((wa.setCell ⟨w.heap.size, 0, none⟩ (.int .i64 0)).setCell ⟨w.heap.size, 1, none⟩ (.int .i64 0)).setCell ⟨w.heap.size, 2, none⟩ (.int .i64 0)).setCell ⟨w.heap.size, 3, none⟩ (.slice none 0 0)) w.heap.size 24 (cellsT 0 0 0 (.slice none 0 0)) := by
        have h := ((((hya.set_ 0 (.int .i64 0)).set_ 1 (.int .i64 0)).set_ 2 (.int .i64 0)).set_ 3 (.slice none 0 0))
        simpa [cellsT] using h
      have hBf := hBa.trans (hwf.below hBa.size (fun k hk => Nat.le_of_eq hk.symm))
      refine marks_ret0 ?_
      clear hwf
      generalize ((((wa.setCell ⟨w.heap.size, 0, none⟩ (.int .i64 0)).setCell ⟨w.heap.size, 1, none⟩ (.int .i64 0)).setCell ⟨w.heap.size, 2, none⟩ (.int .i64 0)).setCell ⟨w.heap.size, 3, none⟩ (.slice none 0 0)) = wf at *
      obtain ⟨j0, j1, j2, j3, _, _, _, _, jl⟩ := hyf.cellsT
      refine ⟨.tuple #[.agg #[.int .i64 0, .int .i64 0, .int .i64 0, .slice none 0 0], .bool false], by simp [results, Tryd.results7, go_sem, jl, j0, j1, j2, j3], none, 0, ?_, ?_, hBf⟩
      · rw [Hv.out.2, Hv.out.1]; rfl
      · rw [Hv.out.2]; exact Vec.nil
    · by_cases h2 : recTx (pId s) (pSer s) (pMade s) ([] : List Ev) = s
      · have Hv := Lib.hid (ok_yes HE.out h1 h2)
        have h3 : ((recTx (pId s) (pSer s) (pMade s) ([] : List Ev)).toList == s.toList) = true := by rw [h2]; simp
        clear h2
        refine (IsRecord_any _ _ _ none 0 ([] : List Ev) _ Ls.none_ (Nat.zero_le _)).mono ?_
        rw [h1]
        rintro e wa ⟨rfl, qa⟩
        have hBa := blw hB7 qa
        have hya := hy7.below qa hy7.lt
        have hra := hr7.below qa hr7.lt
        have hva := Lib.hid (hv7.out.on qa)
        have Hqa := Lib.hid qa
        clear qa
        have hta := tab_below ht hBa
        clear x0 x1 x2 x3 f0 f1 f2 f3 xl
        obtain ⟨x0, x1, x2, x3, f0, f1, f2, f3, xl⟩ := hra.cellsT
        go_wp2_with fail
        refine (recordText_any _ _ _ none 0 ([] : List Ev) _ Ls.none_ h1 hta).mono ?_
        rintro e wb ⟨rfl, qb⟩
        generalize recTx (pId s) (pSer s) (pMade s) ([] : List Ev) = tx at *
        have hBb := blw hBa qb
        have hyb := hya.below qb hya.lt
        have hrb := hra.below qb hra.lt
        have hvb := Lib.hid (hva.out.on qb)
        have Hqb := Lib.hid qb
        clear qb
        clear x0 x1 x2 x3 f0 f1 f2 f3 xl
        obtain ⟨x0, x1, x2, x3, f0, f1, f2, f3, xl⟩ := hrb.cellsT
        obtain ⟨y0, y1, y2, y3, g0, g1, g2, g3, yl⟩ := hyb.cellsT
        go_wp2_with fail
        have hwf : Wr (fun q => q = w.heap.size) wb ((((wb.setCell ⟨w.heap.size, 0, none⟩ (.int .i64 (pId s))).setCell ⟨w.heap.size, 1, none⟩ (.int .i64 (pSer s))).setCell ⟨w.heap.size, 2, none⟩ (.int .i64 (pMade s))).setCell ⟨w.heap.size, 3, none⟩ (.slice none 0 0)) := (Wr.setCell (p := ⟨w.heap.size, 3, none⟩) (Wr.setCell (p := ⟨w.heap.size, 2, none⟩) (Wr.setCell (p := ⟨w.heap.size, 1, none⟩) (Wr.setCell (p := ⟨w.heap.size, 0, none⟩) (Wr.refl (fun q => q = w.heap.size) wb) (.inl rfl) (.int .i64 (pId s))) (.inl rfl) (.int .i64 (pSer s))) (.inl rfl) (.int .i64 (pMade s))) (.inl rfl) (.slice none 0 0))
        have hyf : Blk ((((wb.setCell ⟨w.heap.size, 0, none⟩ (.int .i64 (pId s))).setCell ⟨w.heap.size, 1, none⟩ (.int .i64 (pSer s))).setCell ⟨w.heap.size, 2, none⟩ (.int .i64 (pMade s))).setCell ⟨w.heap.size, 3, none⟩ (.slice none 0 0)) w.heap.size 24 (cellsT (pId s) (pSer s) (pMade s) (.slice none 0 0)) := by
          have h := ((((hyb.set_ 0 (.int .i64 (pId s))).set_ 1 (.int .i64 (pSer s))).set_ 2 (.int .i64 (pMade s))).set_ 3 (.slice none 0 0))
          simpa [cellsT] using h
        have hBf := hBb.trans (hwf.below hBb.size (fun k hk => Nat.le_of_eq hk.symm))
        have hvf := hvb.out.wr_up hwf (fun k hk => by omega)
        refine marks_ret0 ?_
        clear hwf
        generalize ((((wb.setCell ⟨w.heap.size, 0, none⟩ (.int .i64 (pId s))).setCell ⟨w.heap.size, 1, none⟩ (.int .i64 (pSer s))).setCell ⟨w.heap.size, 2, none⟩ (.int .i64 (pMade s))).setCell ⟨w.heap.size, 3, none⟩ (.slice none 0 0)) = wf at *
        obtain ⟨j0, j1, j2, j3, _, _, _, _, jl⟩ := hyf.cellsT
        refine ⟨.tuple #[.agg #[.int .i64 (pId s), .int .i64 (pSer s), .int .i64 (pMade s), .slice none 0 0], .bool true], by simp [results, Tryd.results7, go_sem, jl, j0, j1, j2, j3], none, 0, ?_, ?_, hBf⟩
        · rw [Hv.out.2, Hv.out.1]; rfl
        · rw [Hv.out.2]; exact hvf.mono (by omega)
      · have Hv := Lib.hid (ok_no HE.out (.inr h2))
        have h3 : ((recTx (pId s) (pSer s) (pMade s) ([] : List Ev)).toList == s.toList) = false := str_ne h2
        clear h2
        refine (IsRecord_any _ _ _ none 0 ([] : List Ev) _ Ls.none_ (Nat.zero_le _)).mono ?_
        rw [h1]
        rintro e wa ⟨rfl, qa⟩
        have hBa := blw hB7 qa
        have hya := hy7.below qa hy7.lt
        have hra := hr7.below qa hr7.lt
        have hva := Lib.hid (hv7.out.on qa)
        have Hqa := Lib.hid qa
        clear qa
        have hta := tab_below ht hBa
        clear x0 x1 x2 x3 f0 f1 f2 f3 xl
        obtain ⟨x0, x1, x2, x3, f0, f1, f2, f3, xl⟩ := hra.cellsT
        go_wp2_with fail
        refine (recordText_any _ _ _ none 0 ([] : List Ev) _ Ls.none_ h1 hta).mono ?_
        rintro e wb ⟨rfl, qb⟩
        generalize recTx (pId s) (pSer s) (pMade s) ([] : List Ev) = tx at *
        have hBb := blw hBa qb
        have hyb := hya.below qb hya.lt
        have hrb := hra.below qb hra.lt
        have hvb := Lib.hid (hva.out.on qb)
        have Hqb := Lib.hid qb
        clear qb
        clear x0 x1 x2 x3 f0 f1 f2 f3 xl
        obtain ⟨y0, y1, y2, y3, g0, g1, g2, g3, yl⟩ := hyb.cellsT
        go_wp2_with fail
        have hwf : Wr (fun q => q = w.heap.size) wb ((((wb.setCell ⟨w.heap.size, 0, none⟩ (.int .i64 0)).setCell ⟨w.heap.size, 1, none⟩ (.int .i64 0)).setCell ⟨w.heap.size, 2, none⟩ (.int .i64 0)).setCell ⟨w.heap.size, 3, none⟩ (.slice none 0 0)) := (Wr.setCell (p := ⟨w.heap.size, 3, none⟩) (Wr.setCell (p := ⟨w.heap.size, 2, none⟩) (Wr.setCell (p := ⟨w.heap.size, 1, none⟩) (Wr.setCell (p := ⟨w.heap.size, 0, none⟩) (Wr.refl (fun q => q = w.heap.size) wb) (.inl rfl) (.int .i64 0)) (.inl rfl) (.int .i64 0)) (.inl rfl) (.int .i64 0)) (.inl rfl) (.slice none 0 0))
        have hyf : Blk ((((wb.setCell ⟨w.heap.size, 0, none⟩ (.int .i64 0)).setCell ⟨w.heap.size, 1, none⟩ (.int .i64 0)).setCell ⟨w.heap.size, 2, none⟩ (.int .i64 0)).setCell ⟨w.heap.size, 3, none⟩ (.slice none 0 0)) w.heap.size 24 (cellsT 0 0 0 (.slice none 0 0)) := by
          have h := ((((hyb.set_ 0 (.int .i64 0)).set_ 1 (.int .i64 0)).set_ 2 (.int .i64 0)).set_ 3 (.slice none 0 0))
          simpa [cellsT] using h
        have hBf := hBb.trans (hwf.below hBb.size (fun k hk => Nat.le_of_eq hk.symm))
        refine marks_ret0 ?_
        clear hwf
        generalize ((((wb.setCell ⟨w.heap.size, 0, none⟩ (.int .i64 0)).setCell ⟨w.heap.size, 1, none⟩ (.int .i64 0)).setCell ⟨w.heap.size, 2, none⟩ (.int .i64 0)).setCell ⟨w.heap.size, 3, none⟩ (.slice none 0 0)) = wf at *
        obtain ⟨j0, j1, j2, j3, _, _, _, _, jl⟩ := hyf.cellsT
        refine ⟨.tuple #[.agg #[.int .i64 0, .int .i64 0, .int .i64 0, .slice none 0 0], .bool false], by simp [results, Tryd.results7, go_sem, jl, j0, j1, j2, j3], none, 0, ?_, ?_, hBf⟩
        · rw [Hv.out.2, Hv.out.1]; rfl
        · rw [Hv.out.2]; exact Vec.nil
  · have HE := Lib.hid (show pEvs s = (partsA 32 (cS 32 s)).map evOf by simp [pEvs, hc])
    have Hpm := Lib.hid (fun x (hx : x ∈ partsA 32 (cS 32 s)) => partsA_mem hx)
    have Hpl := Lib.hid (partsA_len 32 (cS 32 s))
    refine calls_of_marks Tryd.func7 rfl ?_
    simp only [Tryd.ntmps7, List.size_toArray, List.length_cons, List.length_nil, Nat.reduceAdd, Nat.reduceSub, Array.replicate_succ, Array.replicate_zero, List.push_toArray, List.append_toArray, List.nil_append, List.cons_append]
    go_wp2_with fail
    change Calls Tryd.prog 24 _ (w.alloc (.cells (cellsT 0 0 0 (.slice none 0 0)) 24)) _
    generalize w.alloc (.cells (cellsT 0 0 0 (.slice none 0 0)) 24) = W0 at *
    refine (Cut_any s 32 _ hs hm0).mono ?_
    rintro e w1 ⟨rfl, q1⟩
    have hB1 := blw hB0 q1
    have hy1 := hy0.below q1 hy0.lt
    have hm1 := ml_below hm0 q1
    go_wp2_with fail
    refine (Cut_any (cF 32 s) 115 _ (by omega) hm1).mono ?_
    rintro e w2 ⟨rfl, q2⟩
    have hB2 := blw hB1 q2
    have hy2 := hy1.below q2 hy1.lt
    have hm2 := ml_below hm1 q2
    go_wp2_with fail
    refine (Cut_any (cS 115 (cF 32 s)) 64 _ (by omega) hm2).mono ?_
    rintro e w3 ⟨rfl, q3⟩
    have hB3 := blw hB2 q3
    have hy3 := hy2.below q3 hy2.lt
    have hm3 := ml_below hm2 q3
    go_wp2_with fail
    refine (d1 _).mono ?_
    rintro e w4 ⟨rfl, q4⟩
    have hB4 := blw hB3 q4
    have hy4 := hy3.below q4 hy3.lt
    have hm4 := ml_below hm3 q4
    go_wp2_with fail
    refine (d2 _).mono ?_
    rintro e w5 ⟨rfl, q5⟩
    have hB5 := blw hB4 q5
    have hy5 := hy4.below q5 hy4.lt
    have hm5 := ml_below hm4 q5
    go_wp2_with fail
    refine (d3 _).mono ?_
    rintro e w6 ⟨rfl, q6⟩
    have hB6 := blw hB5 q6
    have hy6 := hy5.below q6 hy5.lt
    have hm6 := ml_below hm5 q6
    have hz6 : w.heap.size < w6.heap.size := hy6.lt
    have hr7 := Blk.new w6 24 (cellsT (pId s) (pSer s) (pMade s) (.slice none 0 0))
    have hB7 := blw_alloc hB6 (.cells (cellsT (pId s) (pSer s) (pMade s) (.slice none 0 0)) 24)
    have hy7 := hy6.alloc (.cells (cellsT (pId s) (pSer s) (pMade s) (.slice none 0 0)) 24)
    have hz7 : (w6.alloc (.cells (cellsT (pId s) (pSer s) (pMade s) (.slice none 0 0)) 24)).heap.size = w6.heap.size + 1 := by simp
    go_wp2_with fail
    change Calls Tryd.prog 26 _ (w6.alloc (.cells (cellsT (pId s) (pSer s) (pMade s) (.slice none 0 0)) 24)) _
    generalize (w6.alloc (.cells (cellsT (pId s) (pSer s) (pMade s) (.slice none 0 0)) 24)) = w7 at *
    refine (SplitSeq_any (cS 32 s) ⟨#[32]⟩ w7).mono ?_
    rintro e w8 ⟨rfl, rfl⟩
    have u1 := ((Blk.new w7 9 #[.string (cS 32 s)]).alloc (.cells #[.string ⟨#[32]⟩] 9)).alloc (.cells #[.int .i64 0] 3)
    have u2 := (Blk.new (w7.alloc (.cells #[.string (cS 32 s)] 9)) 9 #[.string ⟨#[32]⟩]).alloc (.cells #[.int .i64 0] 3)
    have u3 := Blk.new ((w7.alloc (.cells #[.string (cS 32 s)] 9)).alloc (.cells #[.string ⟨#[32]⟩] 9)) 3 #[.int .i64 0]
    have q8 : Below w7.heap.size w7 (((w7.alloc (.cells #[.string (cS 32 s)] 9)).alloc (.cells #[.string ⟨#[32]⟩] 9)).alloc (.cells #[.int .i64 0] 3)) := blw_alloc (blw_alloc (blw_alloc (Below.refl _ _) _) _) _
    have hz8 : (((w7.alloc (.cells #[.string (cS 32 s)] 9)).alloc (.cells #[.string ⟨#[32]⟩] 9)).alloc (.cells #[.int .i64 0] 3)).heap.size = w7.heap.size + 3 := by simp
    simp only [World.size_alloc] at u2 u3
    go_wp2_with fail
    generalize (((w7.alloc (.cells #[.string (cS 32 s)] 9)).alloc (.cells #[.string ⟨#[32]⟩] 9)).alloc (.cells #[.int .i64 0] 3)) = w8 at *
    have hy8 := hy7.below q8 hy7.lt
    have hr8 := hr7.below q8 hr7.lt
    have hB8 := blw hB7 q8
    have hgv := splitSeq1_gives (cS 32 s) 32 w7.heap.size w8 u1 u2 u3 hz8 (by omega)
    refine wp_rangeFunc_all (gf := 67) (lo := w7.heap.size) (enc := Value.string) (lb := #[.pointer (some ⟨w7.heap.size + 1, 0, none⟩), .pointer (some ⟨w7.heap.size, 0, none⟩), .pointer (some ⟨w7.heap.size + 2, 0, none⟩)]) (xs := partsA 32 (cS 32 s)) ?hg ?eg ?hlo ?hgv ?hps
      (fun pre W => ∃ A c, Blk W w.heap.size 24 (cellsT 0 0 0 (.slice none 0 0)) ∧ Blk W w6.heap.size 24 (cellsT (pId s) (pSer s) (pMade s) (.slice A (pre.map evOf).length c)) ∧ Vec W (w7.heap.size + 5) 46 encEv 2 (.slice A (pre.map evOf).length c) (pre.map evOf) ∧ Below w.heap.size w W)
      ?hI ?h0 ?a1 ?assign ?body ?done
    case hg => simp [Act.eval]
    case eg => exact enters_of Tryd.func67 (by kernel_rfl) rfl
    case hlo => omega
    case hgv => exact hgv
    case hps => rfl
    case h0 => exact ⟨none, 0, hy8, hr8, Vec.nil, hB8⟩
    case hI =>
      rintro pre A B ⟨A1, c1, h1, h2, h3, h4⟩ hw
      exact ⟨A1, c1, h1.wr hw (by omega), h2.wr hw (by omega), h3.wr_up hw (fun k hk => by omega), h4.trans (hw.below h4.size (fun k hk => by omega))⟩
    case assign =>
      intro l x W K hK
      gi_wp2
      exact hK
    case body =>
      rintro l pre x post W hx ⟨A1, c1, k1, k2, k3, k4⟩ hsz
      obtain ⟨L, hL⟩ : ∃ L, L = pre.map evOf := ⟨_, rfl⟩
      rw [← hL] at k2 k3
      have hxs : x.size ≤ 1048576 := by have := Hpm.out x (by rw [← hx]; simp); omega
      have hLn : L.length ≤ 1048577 := by
        have h := Hpl.out
        rw [← hx] at h
        rw [hL]
        simp at h ⊢
        omega
      have e1 : ∀ W, Calls Tryd.prog 25 #[.string (cF 64 x)] W fun e w' => e = .returned (.int .i64 (evOf x).1) ∧ Below W.heap.size W w' := fun W => digitsOf_any _ W (by have := cF_size 64 x; omega)
      have e2 : ∀ W, Calls Tryd.prog 25 #[.string (cS 64 x)] W fun e w' => e = .returned (.int .i64 (evOf x).2) ∧ Below W.heap.size W w' := fun W => digitsOf_any _ W (by have := cS_size 64 x; omega)
      refine wpIn_block (wpIn_seq (round_list ?_ rfl ?_))
      · rintro ⟨a, v, h⟩
        cases h.1
      go_wp2_with fail
      refine (Cut_any x 64 W hxs (ml_below hm k4)).mono ?_
      rintro e v1 ⟨rfl, q1⟩
      have t1 : Wr (fun k => k = w6.heap.size ∨ w7.heap.size + 5 ≤ k) W v1 := Wr.of_below q1
      go_wp2_with fail
      have HL := Lib.hid hL
      clear hL
      have Hk1 := Lib.hid k1
      have Hk4 := Lib.hid k4
      have t1' : Wr (fun _ => False) W v1 := Wr.of_below q1
      clear k1 k4 q1
      refine round_held (S := fun _ => True) ?_ rfl (by kernel_rfl) ?_
      · rintro ⟨a, v, h⟩
        cases h.1
      have hHeld : True := trivial
      have hr : Blk v1.drew w6.heap.size 24 (cellsT (pId s) (pSer s) (pMade s) (.slice A1 L.length c1)) := (k2.wr t1' (fun h => h)).drew
      have hv := (k3.wr_up t1' (fun k hk h => h)).drew
      have hT := t1.drew
      have hbs : w7.heap.size + 5 ≤ v1.drew.heap.size := by have := t1.size; show _ ≤ v1.heap.size; omega
      clear k2 k3 t1
      generalize v1.drew = v1 at *
      refine wpAnyH_take (i := 0) (v := ?v1) rfl (by kernel_rfl) (by kernel_rfl) (by kernel_rfl) (fun _ _ _ h => h) (Or.inl ⟨by rfl, ?hy1⟩) hHeld ?rest1
      case hy1 => (intro W hSw; (try dsimp only at hSw); go_simp) <;> with_reducible rfl
      try simp only [Act.put, List.setIfInBounds_toArray, List.set_cons_zero, List.set_cons_succ, List.getElem_toArray, List.getElem_cons_succ, List.getElem_cons_zero]
      refine wpAnyH_take (i := 2) (v := ?v2) rfl (by kernel_rfl) (by kernel_rfl) (by kernel_rfl) (fun _ _ _ h => h) (Or.inl ⟨by rfl, ?hy2⟩) hHeld ?rest2
      case hy2 => (intro W hSw; (try dsimp only at hSw); go_simp) <;> with_reducible rfl
      try simp only [Act.put, List.setIfInBounds_toArray, List.set_cons_zero, List.set_cons_succ, List.getElem_toArray, List.getElem_cons_succ, List.getElem_cons_zero]
      refine wpAnyH_take (i := 4) (v := ?v3) rfl (by kernel_rfl) (by kernel_rfl) (by kernel_rfl) (fun _ _ _ h => h) (Or.inl ⟨by rfl, ?hy3⟩) hHeld ?rest3
      case hy3 => (intro W hSw; (try dsimp only at hSw); go_simp) <;> with_reducible rfl
      try simp only [Act.put, List.setIfInBounds_toArray, List.set_cons_zero, List.set_cons_succ, List.getElem_toArray, List.getElem_cons_succ, List.getElem_cons_zero]
      refine wpAnyH_ready (rs := [1, 3]) (by kernel_rfl) (by simp) ?_
      refine AllReadyH.cons rfl (fun K hK => ?_) (AllReadyH.cons rfl (fun K hK => ?_) AllReadyH.nil)
      · have c3 := hr.cell 3
        go_simp
        refine hK.out _ _ trivial (fun hH2 => ?_)
        clear hK K hHeld hH2
        have hHeld : True := trivial
        clear c3
        try simp only [Act.put, List.setIfInBounds_toArray, List.set_cons_zero, List.set_cons_succ, List.getElem_toArray, List.getElem_cons_succ, List.getElem_cons_zero]
        refine wpAnyH_ready (rs := [3]) (by kernel_rfl) (by simp) ?_
        refine AllReadyH.cons rfl (fun K hK => ?_) AllReadyH.nil
        go_simp
        refine (e1 _).mono ?_
        rintro e v2 ⟨rfl, hq⟩
        go_wp2_with fail
        refine hK.out _ _ trivial (fun hH2 => ?_)
        clear hK K hHeld hH2
        have hHeld : True := trivial
        replace hr := hr.below hq hr.lt
        replace hv := hv.on hq
        replace hT := hT.trans (Wr.of_below hq)
        replace hbs := Nat.le_trans hbs hq.size
        clear hq
        try simp only [Act.put, List.setIfInBounds_toArray, List.set_cons_zero, List.set_cons_succ, List.getElem_toArray, List.getElem_cons_succ, List.getElem_cons_zero]
        refine wpAnyH_ready (rs := [5]) (by kernel_rfl) (by simp) ?_
        refine AllReadyH.cons rfl (fun K hK => ?_) AllReadyH.nil
        go_simp
        refine (e2 _).mono ?_
        rintro e v3 ⟨rfl, hq⟩
        go_wp2_with fail
        refine hK.out _ _ trivial (fun hH2 => ?_)
        clear hK K hHeld hH2
        have hHeld : True := trivial
        replace hr := hr.below hq hr.lt
        replace hv := hv.on hq
        replace hT := hT.trans (Wr.of_below hq)
        replace hbs := Nat.le_trans hbs hq.size
        clear hq
        try simp only [Act.put, List.setIfInBounds_toArray, List.set_cons_zero, List.set_cons_succ, List.getElem_toArray, List.getElem_cons_succ, List.getElem_cons_zero]
        refine wpAnyH_take (i := 6) (v := ?v4) rfl (by kernel_rfl) (by kernel_rfl) (by kernel_rfl) (fun _ _ _ h => h) (Or.inl ⟨by rfl, ?hy4⟩) hHeld ?rest4
        case hy4 => (intro W hSw; (try dsimp only at hSw); go_simp) <;> with_reducible rfl
        try simp only [Act.put, List.setIfInBounds_toArray, List.set_cons_zero, List.set_cons_succ, List.getElem_toArray, List.getElem_cons_succ, List.getElem_cons_zero]
        refine wpAnyH_ready (rs := [7]) (by kernel_rfl) (by simp) ?_
        refine AllReadyH.cons rfl (fun K hK => ?_) AllReadyH.nil
        go_simp
        refine hK.out _ _ trivial (fun hH2 => ?_)
        clear hK K hHeld hH2
        have hHeld : True := trivial
        have b1 : Blk (v3.alloc (.cells #[.int .i64 (evOf x).1, .int .i64 (evOf x).2] 46)) v3.heap.size 46 #[.int .i64 (evOf x).1, .int .i64 (evOf x).2] := Blk.new v3 46 #[.int .i64 (evOf x).1, .int .i64 (evOf x).2]
        replace hr := hr.alloc (.cells #[.int .i64 (evOf x).1, .int .i64 (evOf x).2] 46)
        replace hv := hv.alloc (.cells #[.int .i64 (evOf x).1, .int .i64 (evOf x).2] 46)
        replace hT := hT.alloc (.cells #[.int .i64 (evOf x).1, .int .i64 (evOf x).2] 46)
        replace hbs : w7.heap.size + 5 ≤ (v3.alloc (.cells #[.int .i64 (evOf x).1, .int .i64 (evOf x).2] 46)).heap.size := by simp; omega
        generalize (v3.alloc (.cells #[.int .i64 (evOf x).1, .int .i64 (evOf x).2] 46)) = v4 at *
        generalize v3.heap.size = N1 at *
        try simp only [Act.put, List.setIfInBounds_toArray, List.set_cons_zero, List.set_cons_succ, List.getElem_toArray, List.getElem_cons_succ, List.getElem_cons_zero]
        refine wpAnyH_ready (rs := [8]) (by kernel_rfl) (by simp) ?_
        refine AllReadyH.cons rfl (fun K hK => ?_) AllReadyH.nil
        refine step_appN (base := w7.heap.size + 5) rfl (.tmp 53) (.tmp 59) 22 rfl 46 (.agg #[.int .i64 0, .int .i64 0]) 2 16 Tryd.underlying22 (by kernel_rfl) rfl (by omega) encEv_len one_ev A1 c1 _ L rfl rfl hv _ 1 _ 1 [evOf x] rfl rfl (Ls.blkc b1 rfl) (by unfold maxLen; omega) (by omega) hbs (L.length + 1) rfl ?_
        intro A2 c2 v5 hv2 hw2
        refine hK.out _ _ trivial (fun hH2 => ?_)
        clear hK K hHeld hH2
        have hHeld : True := trivial
        replace hr := hr.wr hw2 (fun hq => by have := (hv.block hq).1; omega)
        replace hT := hT.trans (hw2.mono (fun k hk => .inr (hv.block hk).1))
        clear hw2 hv b1
        try simp only [Act.put, List.setIfInBounds_toArray, List.set_cons_zero, List.set_cons_succ, List.getElem_toArray, List.getElem_cons_succ, List.getElem_cons_zero]
        refine wpAnyH_take (i := 9) (v := ?v5) rfl (by kernel_rfl) (by kernel_rfl) (by kernel_rfl) (fun _ _ _ h => h) (Or.inl ⟨by rfl, ?hy5⟩) hHeld ?rest5
        case hy5 => (intro W hSw; (try dsimp only at hSw); go_simp) <;> with_reducible rfl
        try simp only [Act.put, List.setIfInBounds_toArray, List.set_cons_zero, List.set_cons_succ, List.getElem_toArray, List.getElem_cons_succ, List.getElem_cons_zero]
        refine wpAnyH_ready (rs := [10]) (by kernel_rfl) (by simp) ?_
        refine AllReadyH.cons rfl (fun K hK => ?_) AllReadyH.nil
        have c3 := hr.cell 3
        have f3 := hr.frozen 3
        go_simp
        refine hK.out _ _ trivial (fun hH2 => ?_)
        clear hK K hHeld hH2
        have hHeld : True := trivial
        have hw3 : Wr (fun k => k = w6.heap.size) v5 (v5.setCell ⟨w6.heap.size, 3, none⟩ (.slice A2 (L.length + 1) c2)) := Wr.setCell (p := ⟨w6.heap.size, 3, none⟩) (Wr.refl (fun k => k = w6.heap.size) v5) (.inl rfl) _
        replace hv2 := hv2.wr_up hw3 (fun k hk => by omega)
        replace hT := hT.trans (hw3.mono (fun k hk => .inl hk))
        have hrf : Blk (v5.setCell ⟨w6.heap.size, 3, none⟩ (.slice A2 (L.length + 1) c2)) w6.heap.size 24 (cellsT (pId s) (pSer s) (pMade s) (.slice A2 (L.length + 1) c2)) := by
          have h := hr.set_ 3 (.slice A2 (L.length + 1) c2)
          simpa [cellsT] using h
        generalize (v5.setCell ⟨w6.heap.size, 3, none⟩ (.slice A2 (L.length + 1) c2)) = v6 at *
        try simp only [Act.put, List.setIfInBounds_toArray, List.set_cons_zero, List.set_cons_succ, List.getElem_toArray, List.getElem_cons_succ, List.getElem_cons_zero]
        refine wpAnyH_done (by kernel_rfl) ?_ _
        have hLx : (pre ++ [x]).map evOf = L ++ [evOf x] := by rw [HL.out]; simp
        have hLy : (L ++ [evOf x]).length = L.length + 1 := by simp
        rw [← hLx] at hv2
        rw [← hLy, ← hLx] at hrf hv2
        exact ⟨rfl, fun k h1 h2 => hT.block k (by omega) (by omega), A2, c2, Hk1.out.wr hT (by omega), hrf, hv2, Hk4.out.trans (hT.below Hk4.out.size (fun k hk => by omega))⟩
      · go_simp
        refine (e1 _).mono ?_
        rintro e v7 ⟨rfl, hq⟩
        go_wp2_with fail
        refine hK.out _ _ trivial (fun hH2 => ?_)
        clear hK K hHeld hH2
        have hHeld : True := trivial
        replace hr := hr.below hq hr.lt
        replace hv := hv.on hq
        replace hT := hT.trans (Wr.of_below hq)
        replace hbs := Nat.le_trans hbs hq.size
        clear hq
        try simp only [Act.put, List.setIfInBounds_toArray, List.set_cons_zero, List.set_cons_succ, List.getElem_toArray, List.getElem_cons_succ, List.getElem_cons_zero]
        refine wpAnyH_ready (rs := [1, 5]) (by kernel_rfl) (by simp) ?_
        refine AllReadyH.cons rfl (fun K hK => ?_) (AllReadyH.cons rfl (fun K hK => ?_) AllReadyH.nil)
        · have c3 := hr.cell 3
          go_simp
          refine hK.out _ _ trivial (fun hH2 => ?_)
          clear hK K hHeld hH2
          have hHeld : True := trivial
          clear c3
          try simp only [Act.put, List.setIfInBounds_toArray, List.set_cons_zero, List.set_cons_succ, List.getElem_toArray, List.getElem_cons_succ, List.getElem_cons_zero]
          refine wpAnyH_ready (rs := [5]) (by kernel_rfl) (by simp) ?_
          refine AllReadyH.cons rfl (fun K hK => ?_) AllReadyH.nil
          go_simp
          refine (e2 _).mono ?_
          rintro e v8 ⟨rfl, hq⟩
          go_wp2_with fail
          refine hK.out _ _ trivial (fun hH2 => ?_)
          clear hK K hHeld hH2
          have hHeld : True := trivial
          replace hr := hr.below hq hr.lt
          replace hv := hv.on hq
          replace hT := hT.trans (Wr.of_below hq)
          replace hbs := Nat.le_trans hbs hq.size
          clear hq
          try simp only [Act.put, List.setIfInBounds_toArray, List.set_cons_zero, List.set_cons_succ, List.getElem_toArray, List.getElem_cons_succ, List.getElem_cons_zero]
          refine wpAnyH_take (i := 6) (v := ?v6) rfl (by kernel_rfl) (by kernel_rfl) (by kernel_rfl) (fun _ _ _ h => h) (Or.inl ⟨by rfl, ?hy6⟩) hHeld ?rest6
          case hy6 => (intro W hSw; (try dsimp only at hSw); go_simp) <;> with_reducible rfl
          try simp only [Act.put, List.setIfInBounds_toArray, List.set_cons_zero, List.set_cons_succ, List.getElem_toArray, List.getElem_cons_succ, List.getElem_cons_zero]
          refine wpAnyH_ready (rs := [7]) (by kernel_rfl) (by simp) ?_
          refine AllReadyH.cons rfl (fun K hK => ?_) AllReadyH.nil
          go_simp
          refine hK.out _ _ trivial (fun hH2 => ?_)
          clear hK K hHeld hH2
          have hHeld : True := trivial
          have b1 : Blk (v8.alloc (.cells #[.int .i64 (evOf x).1, .int .i64 (evOf x).2] 46)) v8.heap.size 46 #[.int .i64 (evOf x).1, .int .i64 (evOf x).2] := Blk.new v8 46 #[.int .i64 (evOf x).1, .int .i64 (evOf x).2]
          replace hr := hr.alloc (.cells #[.int .i64 (evOf x).1, .int .i64 (evOf x).2] 46)
          replace hv := hv.alloc (.cells #[.int .i64 (evOf x).1, .int .i64 (evOf x).2] 46)
          replace hT := hT.alloc (.cells #[.int .i64 (evOf x).1, .int .i64 (evOf x).2] 46)
          replace hbs : w7.heap.size + 5 ≤ (v8.alloc (.cells #[.int .i64 (evOf x).1, .int .i64 (evOf x).2] 46)).heap.size := by simp; omega
          generalize (v8.alloc (.cells #[.int .i64 (evOf x).1, .int .i64 (evOf x).2] 46)) = v9 at *
          generalize v8.heap.size = N1 at *
          try simp only [Act.put, List.setIfInBounds_toArray, List.set_cons_zero, List.set_cons_succ, List.getElem_toArray, List.getElem_cons_succ, List.getElem_cons_zero]
          refine wpAnyH_ready (rs := [8]) (by kernel_rfl) (by simp) ?_
          refine AllReadyH.cons rfl (fun K hK => ?_) AllReadyH.nil
          refine step_appN (base := w7.heap.size + 5) rfl (.tmp 53) (.tmp 59) 22 rfl 46 (.agg #[.int .i64 0, .int .i64 0]) 2 16 Tryd.underlying22 (by kernel_rfl) rfl (by omega) encEv_len one_ev A1 c1 _ L rfl rfl hv _ 1 _ 1 [evOf x] rfl rfl (Ls.blkc b1 rfl) (by unfold maxLen; omega) (by omega) hbs (L.length + 1) rfl ?_
          intro A2 c2 v10 hv2 hw2
          refine hK.out _ _ trivial (fun hH2 => ?_)
          clear hK K hHeld hH2
          have hHeld : True := trivial
          replace hr := hr.wr hw2 (fun hq => by have := (hv.block hq).1; omega)
          replace hT := hT.trans (hw2.mono (fun k hk => .inr (hv.block hk).1))
          clear hw2 hv b1
          try simp only [Act.put, List.setIfInBounds_toArray, List.set_cons_zero, List.set_cons_succ, List.getElem_toArray, List.getElem_cons_succ, List.getElem_cons_zero]
          refine wpAnyH_take (i := 9) (v := ?v7) rfl (by kernel_rfl) (by kernel_rfl) (by kernel_rfl) (fun _ _ _ h => h) (Or.inl ⟨by rfl, ?hy7⟩) hHeld ?rest7
          case hy7 => (intro W hSw; (try dsimp only at hSw); go_simp) <;> with_reducible rfl
          try simp only [Act.put, List.setIfInBounds_toArray, List.set_cons_zero, List.set_cons_succ, List.getElem_toArray, List.getElem_cons_succ, List.getElem_cons_zero]
          refine wpAnyH_ready (rs := [10]) (by kernel_rfl) (by simp) ?_
          refine AllReadyH.cons rfl (fun K hK => ?_) AllReadyH.nil
          have c3 := hr.cell 3
          have f3 := hr.frozen 3
          go_simp
          refine hK.out _ _ trivial (fun hH2 => ?_)
          clear hK K hHeld hH2
          have hHeld : True := trivial
          have hw3 : Wr (fun k => k = w6.heap.size) v10 (v10.setCell ⟨w6.heap.size, 3, none⟩ (.slice A2 (L.length + 1) c2)) := Wr.setCell (p := ⟨w6.heap.size, 3, none⟩) (Wr.refl (fun k => k = w6.heap.size) v10) (.inl rfl) _
          replace hv2 := hv2.wr_up hw3 (fun k hk => by omega)
          replace hT := hT.trans (hw3.mono (fun k hk => .inl hk))
          have hrf : Blk (v10.setCell ⟨w6.heap.size, 3, none⟩ (.slice A2 (L.length + 1) c2)) w6.heap.size 24 (cellsT (pId s) (pSer s) (pMade s) (.slice A2 (L.length + 1) c2)) := by
            have h := hr.set_ 3 (.slice A2 (L.length + 1) c2)
            simpa [cellsT] using h
          generalize (v10.setCell ⟨w6.heap.size, 3, none⟩ (.slice A2 (L.length + 1) c2)) = v11 at *
          try simp only [Act.put, List.setIfInBounds_toArray, List.set_cons_zero, List.set_cons_succ, List.getElem_toArray, List.getElem_cons_succ, List.getElem_cons_zero]
          refine wpAnyH_done (by kernel_rfl) ?_ _
          have hLx : (pre ++ [x]).map evOf = L ++ [evOf x] := by rw [HL.out]; simp
          have hLy : (L ++ [evOf x]).length = L.length + 1 := by simp
          rw [← hLx] at hv2
          rw [← hLy, ← hLx] at hrf hv2
          exact ⟨rfl, fun k h1 h2 => hT.block k (by omega) (by omega), A2, c2, Hk1.out.wr hT (by omega), hrf, hv2, Hk4.out.trans (hT.below Hk4.out.size (fun k hk => by omega))⟩
        · go_simp
          refine (e2 _).mono ?_
          rintro e v12 ⟨rfl, hq⟩
          go_wp2_with fail
          refine hK.out _ _ trivial (fun hH2 => ?_)
          clear hK K hHeld hH2
          have hHeld : True := trivial
          replace hr := hr.below hq hr.lt
          replace hv := hv.on hq
          replace hT := hT.trans (Wr.of_below hq)
          replace hbs := Nat.le_trans hbs hq.size
          clear hq
          try simp only [Act.put, List.setIfInBounds_toArray, List.set_cons_zero, List.set_cons_succ, List.getElem_toArray, List.getElem_cons_succ, List.getElem_cons_zero]
          refine wpAnyH_take (i := 6) (v := ?v8) rfl (by kernel_rfl) (by kernel_rfl) (by kernel_rfl) (fun _ _ _ h => h) (Or.inl ⟨by rfl, ?hy8⟩) hHeld ?rest8
          case hy8 => (intro W hSw; (try dsimp only at hSw); go_simp) <;> with_reducible rfl
          try simp only [Act.put, List.setIfInBounds_toArray, List.set_cons_zero, List.set_cons_succ, List.getElem_toArray, List.getElem_cons_succ, List.getElem_cons_zero]
          refine wpAnyH_ready (rs := [1, 7]) (by kernel_rfl) (by simp) ?_
          refine AllReadyH.cons rfl (fun K hK => ?_) (AllReadyH.cons rfl (fun K hK => ?_) AllReadyH.nil)
          · have c3 := hr.cell 3
            go_simp
            refine hK.out _ _ trivial (fun hH2 => ?_)
            clear hK K hHeld hH2
            have hHeld : True := trivial
            clear c3
            try simp only [Act.put, List.setIfInBounds_toArray, List.set_cons_zero, List.set_cons_succ, List.getElem_toArray, List.getElem_cons_succ, List.getElem_cons_zero]
            refine wpAnyH_ready (rs := [7]) (by kernel_rfl) (by simp) ?_
            refine AllReadyH.cons rfl (fun K hK => ?_) AllReadyH.nil
            go_simp
            refine hK.out _ _ trivial (fun hH2 => ?_)
            clear hK K hHeld hH2
            have hHeld : True := trivial
            have b1 : Blk (v12.alloc (.cells #[.int .i64 (evOf x).1, .int .i64 (evOf x).2] 46)) v12.heap.size 46 #[.int .i64 (evOf x).1, .int .i64 (evOf x).2] := Blk.new v12 46 #[.int .i64 (evOf x).1, .int .i64 (evOf x).2]
            replace hr := hr.alloc (.cells #[.int .i64 (evOf x).1, .int .i64 (evOf x).2] 46)
            replace hv := hv.alloc (.cells #[.int .i64 (evOf x).1, .int .i64 (evOf x).2] 46)
            replace hT := hT.alloc (.cells #[.int .i64 (evOf x).1, .int .i64 (evOf x).2] 46)
            replace hbs : w7.heap.size + 5 ≤ (v12.alloc (.cells #[.int .i64 (evOf x).1, .int .i64 (evOf x).2] 46)).heap.size := by simp; omega
            generalize (v12.alloc (.cells #[.int .i64 (evOf x).1, .int .i64 (evOf x).2] 46)) = v13 at *
            generalize v12.heap.size = N1 at *
            try simp only [Act.put, List.setIfInBounds_toArray, List.set_cons_zero, List.set_cons_succ, List.getElem_toArray, List.getElem_cons_succ, List.getElem_cons_zero]
            refine wpAnyH_ready (rs := [8]) (by kernel_rfl) (by simp) ?_
            refine AllReadyH.cons rfl (fun K hK => ?_) AllReadyH.nil
            refine step_appN (base := w7.heap.size + 5) rfl (.tmp 53) (.tmp 59) 22 rfl 46 (.agg #[.int .i64 0, .int .i64 0]) 2 16 Tryd.underlying22 (by kernel_rfl) rfl (by omega) encEv_len one_ev A1 c1 _ L rfl rfl hv _ 1 _ 1 [evOf x] rfl rfl (Ls.blkc b1 rfl) (by unfold maxLen; omega) (by omega) hbs (L.length + 1) rfl ?_
            intro A2 c2 v14 hv2 hw2
            refine hK.out _ _ trivial (fun hH2 => ?_)
            clear hK K hHeld hH2
            have hHeld : True := trivial
            replace hr := hr.wr hw2 (fun hq => by have := (hv.block hq).1; omega)
            replace hT := hT.trans (hw2.mono (fun k hk => .inr (hv.block hk).1))
            clear hw2 hv b1
            try simp only [Act.put, List.setIfInBounds_toArray, List.set_cons_zero, List.set_cons_succ, List.getElem_toArray, List.getElem_cons_succ, List.getElem_cons_zero]
            refine wpAnyH_take (i := 9) (v := ?v9) rfl (by kernel_rfl) (by kernel_rfl) (by kernel_rfl) (fun _ _ _ h => h) (Or.inl ⟨by rfl, ?hy9⟩) hHeld ?rest9
            case hy9 => (intro W hSw; (try dsimp only at hSw); go_simp) <;> with_reducible rfl
            try simp only [Act.put, List.setIfInBounds_toArray, List.set_cons_zero, List.set_cons_succ, List.getElem_toArray, List.getElem_cons_succ, List.getElem_cons_zero]
            refine wpAnyH_ready (rs := [10]) (by kernel_rfl) (by simp) ?_
            refine AllReadyH.cons rfl (fun K hK => ?_) AllReadyH.nil
            have c3 := hr.cell 3
            have f3 := hr.frozen 3
            go_simp
            refine hK.out _ _ trivial (fun hH2 => ?_)
            clear hK K hHeld hH2
            have hHeld : True := trivial
            have hw3 : Wr (fun k => k = w6.heap.size) v14 (v14.setCell ⟨w6.heap.size, 3, none⟩ (.slice A2 (L.length + 1) c2)) := Wr.setCell (p := ⟨w6.heap.size, 3, none⟩) (Wr.refl (fun k => k = w6.heap.size) v14) (.inl rfl) _
            replace hv2 := hv2.wr_up hw3 (fun k hk => by omega)
            replace hT := hT.trans (hw3.mono (fun k hk => .inl hk))
            have hrf : Blk (v14.setCell ⟨w6.heap.size, 3, none⟩ (.slice A2 (L.length + 1) c2)) w6.heap.size 24 (cellsT (pId s) (pSer s) (pMade s) (.slice A2 (L.length + 1) c2)) := by
              have h := hr.set_ 3 (.slice A2 (L.length + 1) c2)
              simpa [cellsT] using h
            generalize (v14.setCell ⟨w6.heap.size, 3, none⟩ (.slice A2 (L.length + 1) c2)) = v15 at *
            try simp only [Act.put, List.setIfInBounds_toArray, List.set_cons_zero, List.set_cons_succ, List.getElem_toArray, List.getElem_cons_succ, List.getElem_cons_zero]
            refine wpAnyH_done (by kernel_rfl) ?_ _
            have hLx : (pre ++ [x]).map evOf = L ++ [evOf x] := by rw [HL.out]; simp
            have hLy : (L ++ [evOf x]).length = L.length + 1 := by simp
            rw [← hLx] at hv2
            rw [← hLy, ← hLx] at hrf hv2
            exact ⟨rfl, fun k h1 h2 => hT.block k (by omega) (by omega), A2, c2, Hk1.out.wr hT (by omega), hrf, hv2, Hk4.out.trans (hT.below Hk4.out.size (fun k hk => by omega))⟩
          · go_simp
            refine hK.out _ _ trivial (fun hH2 => ?_)
            clear hK K hHeld hH2
            have hHeld : True := trivial
            have b1 : Blk (v12.alloc (.cells #[.int .i64 (evOf x).1, .int .i64 (evOf x).2] 46)) v12.heap.size 46 #[.int .i64 (evOf x).1, .int .i64 (evOf x).2] := Blk.new v12 46 #[.int .i64 (evOf x).1, .int .i64 (evOf x).2]
            replace hr := hr.alloc (.cells #[.int .i64 (evOf x).1, .int .i64 (evOf x).2] 46)
            replace hv := hv.alloc (.cells #[.int .i64 (evOf x).1, .int .i64 (evOf x).2] 46)
            replace hT := hT.alloc (.cells #[.int .i64 (evOf x).1, .int .i64 (evOf x).2] 46)
            replace hbs : w7.heap.size + 5 ≤ (v12.alloc (.cells #[.int .i64 (evOf x).1, .int .i64 (evOf x).2] 46)).heap.size := by simp; omega
            generalize (v12.alloc (.cells #[.int .i64 (evOf x).1, .int .i64 (evOf x).2] 46)) = v16 at *
            generalize v12.heap.size = N1 at *
            try simp only [Act.put, List.setIfInBounds_toArray, List.set_cons_zero, List.set_cons_succ, List.getElem_toArray, List.getElem_cons_succ, List.getElem_cons_zero]
            refine wpAnyH_ready (rs := [1]) (by kernel_rfl) (by simp) ?_
            refine AllReadyH.cons rfl (fun K hK => ?_) AllReadyH.nil
            have c3 := hr.cell 3
            go_simp
            refine hK.out _ _ trivial (fun hH2 => ?_)
            clear hK K hHeld hH2
            have hHeld : True := trivial
            clear c3
            try simp only [Act.put, List.setIfInBounds_toArray, List.set_cons_zero, List.set_cons_succ, List.getElem_toArray, List.getElem_cons_succ, List.getElem_cons_zero]
            refine wpAnyH_ready (rs := [8]) (by kernel_rfl) (by simp) ?_
            refine AllReadyH.cons rfl (fun K hK => ?_) AllReadyH.nil
            refine step_appN (base := w7.heap.size + 5) rfl (.tmp 53) (.tmp 59) 22 rfl 46 (.agg #[.int .i64 0, .int .i64 0]) 2 16 Tryd.underlying22 (by kernel_rfl) rfl (by omega) encEv_len one_ev A1 c1 _ L rfl rfl hv _ 1 _ 1 [evOf x] rfl rfl (Ls.blkc b1 rfl) (by unfold maxLen; omega) (by omega) hbs (L.length + 1) rfl ?_
            intro A2 c2 v17 hv2 hw2
            refine hK.out _ _ trivial (fun hH2 => ?_)
            clear hK K hHeld hH2
            have hHeld : True := trivial
            replace hr := hr.wr hw2 (fun hq => by have := (hv.block hq).1; omega)
            replace hT := hT.trans (hw2.mono (fun k hk => .inr (hv.block hk).1))
            clear hw2 hv b1
            try simp only [Act.put, List.setIfInBounds_toArray, List.set_cons_zero, List.set_cons_succ, List.getElem_toArray, List.getElem_cons_succ, List.getElem_cons_zero]
            refine wpAnyH_take (i := 9) (v := ?v10) rfl (by kernel_rfl) (by kernel_rfl) (by kernel_rfl) (fun _ _ _ h => h) (Or.inl ⟨by rfl, ?hy10⟩) hHeld ?rest10
            case hy10 => (intro W hSw; (try dsimp only at hSw); go_simp) <;> with_reducible rfl
            try simp only [Act.put, List.setIfInBounds_toArray, List.set_cons_zero, List.set_cons_succ, List.getElem_toArray, List.getElem_cons_succ, List.getElem_cons_zero]
            refine wpAnyH_ready (rs := [10]) (by kernel_rfl) (by simp) ?_
            refine AllReadyH.cons rfl (fun K hK => ?_) AllReadyH.nil
            have c3 := hr.cell 3
            have f3 := hr.frozen 3
            go_simp
            refine hK.out _ _ trivial (fun hH2 => ?_)
            clear hK K hHeld hH2
            have hHeld : True := trivial
            have hw3 : Wr (fun k => k = w6.heap.size) v17 (v17.setCell ⟨w6.heap.size, 3, none⟩ (.slice A2 (L.length + 1) c2)) := Wr.setCell (p := ⟨w6.heap.size, 3, none⟩) (Wr.refl (fun k => k = w6.heap.size) v17) (.inl rfl) _
            replace hv2 := hv2.wr_up hw3 (fun k hk => by omega)
            replace hT := hT.trans (hw3.mono (fun k hk => .inl hk))
            have hrf : Blk (v17.setCell ⟨w6.heap.size, 3, none⟩ (.slice A2 (L.length + 1) c2)) w6.heap.size 24 (cellsT (pId s) (pSer s) (pMade s) (.slice A2 (L.length + 1) c2)) := by
              have h := hr.set_ 3 (.slice A2 (L.length + 1) c2)
              simpa [cellsT] using h
            generalize (v17.setCell ⟨w6.heap.size, 3, none⟩ (.slice A2 (L.length + 1) c2)) = v18 at *
            try simp only [Act.put, List.setIfInBounds_toArray, List.set_cons_zero, List.set_cons_succ, List.getElem_toArray, List.getElem_cons_succ, List.getElem_cons_zero]
            refine wpAnyH_done (by kernel_rfl) ?_ _
            have hLx : (pre ++ [x]).map evOf = L ++ [evOf x] := by rw [HL.out]; simp
            have hLy : (L ++ [evOf x]).length = L.length + 1 := by simp
            rw [← hLx] at hv2
            rw [← hLy, ← hLx] at hrf hv2
            exact ⟨rfl, fun k h1 h2 => hT.block k (by omega) (by omega), A2, c2, Hk1.out.wr hT (by omega), hrf, hv2, Hk4.out.trans (hT.below Hk4.out.size (fun k hk => by omega))⟩
    case done =>
      rintro w9 ⟨A9, c9, hy9, hr9, hv9, hB9⟩ hk9
      obtain ⟨L, hL⟩ : ∃ L, L = (partsA 32 (cS 32 s)).map evOf := ⟨_, rfl⟩
      obtain ⟨DD, hDD⟩ : ∃ DD, DD = w8.heap.size := ⟨_, rfl⟩
      have hLn : L.length ≤ 1048577 := by
        have h := Hpl.out
        rw [hL, List.length_map]
        omega
      rw [← hL] at hr9 hv9 HE
      rw [← hDD] at hk9 ⊢
      replace hv9 := Lib.hid hv9
      have hDlo : w.heap.size < DD := by omega
      have hDhi : DD < w7.heap.size + 5 := by omega
      clear hDD
      clear hgv u1 u2 u3 hy7 hr7 hy8 hr8 hL
      obtain ⟨x0, x1, x2, x3, f0, f1, f2, f3, xl⟩ := hr9.cellsT
      cases h1 : recB (pId s) (pSer s) (pMade s) L
      · have Hv := Lib.hid (ok_no HE.out (.inl h1))
        go_wp2_with fail
        refine (IsRecord_any _ _ _ A9 c9 L _ (hv9.out.ls encEv_len) (by omega)).mono ?_
        rw [h1]
        rintro e wa ⟨rfl, qa⟩
        have hBa := blw hB9 qa
        have hya := hy9.below qa hy9.lt
        have hra := hr9.below qa hr9.lt
        have hva := Lib.hid (hv9.out.on qa)
        have Hqa := Lib.hid qa
        have hka := (qa.block _ (Array.getElem?_eq_some_iff.1 hk9).1).trans hk9
        clear qa
        clear x0 x1 x2 x3 f0 f1 f2 f3 xl
        obtain ⟨y0, y1, y2, y3, g0, g1, g2, g3, yl⟩ := hya.cellsT
        go_wp2_with fail
        have hwf : Wr (fun q => q = w.heap.size) wa ((((wa.setCell ⟨w.heap.size, 0, none⟩ (.int .i64 0)).setCell ⟨w.heap.size, 1, none⟩ (.int .i64 0)).setCell ⟨w.heap.size, 2, none⟩ (.int .i64 0)).setCell ⟨w.heap.size, 3, none⟩ (.slice none 0 0)) := (Wr.setCell (p := ⟨w.heap.size, 3, none⟩) (Wr.setCell (p := ⟨w.heap.size, 2, none⟩) (Wr.setCell (p := ⟨w.heap.size, 1, none⟩) (Wr.setCell (p := ⟨w.heap.size, 0, none⟩) (Wr.refl (fun q => q = w.heap.size) wa) (.inl rfl) (.int .i64 0)) (.inl rfl) (.int .i64 0)) (.inl rfl) (.int .i64 0)) (.inl rfl) (.slice none 0 0))
        have hyf : Blk ((((wa.setCell ⟨w.heap.size, 0, none⟩ (.int .i64 0)).setCell ⟨w.heap.size, 1, none⟩ (.int .i64 0)).setCell ⟨w.heap.size, 2, none⟩ (.int .i64 0)).setCell ⟨w.heap.size, 3, none⟩ (.slice none 0 0)) w.heap.size 24 (cellsT 0 0 0 (.slice none 0 0)) := by
          have h := ((((hya.set_ 0 (.int .i64 0)).set_ 1 (.int .i64 0)).set_ 2 (.int .i64 0)).set_ 3 (.slice none 0 0))
          simpa [cellsT] using h
        have hBf := hBa.trans (hwf.below hBa.size (fun k hk => Nat.le_of_eq hk.symm))
        have hkf := (hwf.block _ (Array.getElem?_eq_some_iff.1 hka).1 (by omega)).trans hka
        refine marks_ret1 hkf ?_
        have hwp : Wr (fun q => q = DD) ((((wa.setCell ⟨w.heap.size, 0, none⟩ (.int .i64 0)).setCell ⟨w.heap.size, 1, none⟩ (.int .i64 0)).setCell ⟨w.heap.size, 2, none⟩ (.int .i64 0)).setCell ⟨w.heap.size, 3, none⟩ (.slice none 0 0)) (World.putObj ((((wa.setCell ⟨w.heap.size, 0, none⟩ (.int .i64 0)).setCell ⟨w.heap.size, 1, none⟩ (.int .i64 0)).setCell ⟨w.heap.size, 2, none⟩ (.int .i64 0)).setCell ⟨w.heap.size, 3, none⟩ (.slice none 0 0)) DD (.deferred none)) := Wr.putObj _ rfl
        replace hyf := hyf.wr hwp (by omega)
        replace hBf := hBf.trans (hwp.below hBf.size (fun k hk => by omega))
        clear hwp hwf hkf
        generalize (World.putObj ((((wa.setCell ⟨w.heap.size, 0, none⟩ (.int .i64 0)).setCell ⟨w.heap.size, 1, none⟩ (.int .i64 0)).setCell ⟨w.heap.size, 2, none⟩ (.int .i64 0)).setCell ⟨w.heap.size, 3, none⟩ (.slice none 0 0)) DD (.deferred none)) = wf at *
        obtain ⟨j0, j1, j2, j3, _, _, _, _, jl⟩ := hyf.cellsT
        refine ⟨.tuple #[.agg #[.int .i64 0, .int .i64 0, .int .i64 0, .slice none 0 0], .bool false], by simp [results, Tryd.results7, go_sem, jl, j0, j1, j2, j3], none, 0, ?_, ?_, hBf⟩
        · rw [Hv.out.2, Hv.out.1]; rfl
        · rw [Hv.out.2]; exact Vec.nil
      · by_cases h2 : recTx (pId s) (pSer s) (pMade s) L = s
        · have Hv := Lib.hid (ok_yes HE.out h1 h2)
          have h3 : ((recTx (pId s) (pSer s) (pMade s) L).toList == s.toList) = true := by rw [h2]; simp
          clear h2
          go_wp2_with fail
          refine (IsRecord_any _ _ _ A9 c9 L _ (hv9.out.ls encEv_len) (by omega)).mono ?_
          rw [h1]
          rintro e wa ⟨rfl, qa⟩
          have hBa := blw hB9 qa
          have hya := hy9.below qa hy9.lt
          have hra := hr9.below qa hr9.lt
          have hva := Lib.hid (hv9.out.on qa)
          have Hqa := Lib.hid qa
          have hka := (qa.block _ (Array.getElem?_eq_some_iff.1 hk9).1).trans hk9
          clear qa
          have hta := tab_below ht hBa
          clear x0 x1 x2 x3 f0 f1 f2 f3 xl
          obtain ⟨x0, x1, x2, x3, f0, f1, f2, f3, xl⟩ := hra.cellsT
          go_wp2_with fail
          refine (recordText_any _ _ _ A9 c9 L _ (hva.out.ls encEv_len) h1 hta).mono ?_
          rintro e wb ⟨rfl, qb⟩
          generalize recTx (pId s) (pSer s) (pMade s) L = tx at *
          have hBb := blw hBa qb
          have hyb := hya.below qb hya.lt
          have hrb := hra.below qb hra.lt
          have hvb := Lib.hid (hva.out.on qb)
          have Hqb := Lib.hid qb
          have hkb := (qb.block _ (Array.getElem?_eq_some_iff.1 hka).1).trans hka
          clear qb
          clear x0 x1 x2 x3 f0 f1 f2 f3 xl
          obtain ⟨x0, x1, x2, x3, f0, f1, f2, f3, xl⟩ := hrb.cellsT
          obtain ⟨y0, y1, y2, y3, g0, g1, g2, g3, yl⟩ := hyb.cellsT
          go_wp2_with fail
          have hwf : Wr (fun q => q = w.heap.size) wb ((((wb.setCell ⟨w.heap.size, 0, none⟩ (.int .i64 (pId s))).setCell ⟨w.heap.size, 1, none⟩ (.int .i64 (pSer s))).setCell ⟨w.heap.size, 2, none⟩ (.int .i64 (pMade s))).setCell ⟨w.heap.size, 3, none⟩ (.slice A9 L.length c9)) := (Wr.setCell (p := ⟨w.heap.size, 3, none⟩) (Wr.setCell (p := ⟨w.heap.size, 2, none⟩) (Wr.setCell (p := ⟨w.heap.size, 1, none⟩) (Wr.setCell (p := ⟨w.heap.size, 0, none⟩) (Wr.refl (fun q => q = w.heap.size) wb) (.inl rfl) (.int .i64 (pId s))) (.inl rfl) (.int .i64 (pSer s))) (.inl rfl) (.int .i64 (pMade s))) (.inl rfl) (.slice A9 L.length c9))
          have hyf : Blk ((((wb.setCell ⟨w.heap.size, 0, none⟩ (.int .i64 (pId s))).setCell ⟨w.heap.size, 1, none⟩ (.int .i64 (pSer s))).setCell ⟨w.heap.size, 2, none⟩ (.int .i64 (pMade s))).setCell ⟨w.heap.size, 3, none⟩ (.slice A9 L.length c9)) w.heap.size 24 (cellsT (pId s) (pSer s) (pMade s) (.slice A9 L.length c9)) := by
            have h := ((((hyb.set_ 0 (.int .i64 (pId s))).set_ 1 (.int .i64 (pSer s))).set_ 2 (.int .i64 (pMade s))).set_ 3 (.slice A9 L.length c9))
            simpa [cellsT] using h
          have hBf := hBb.trans (hwf.below hBb.size (fun k hk => Nat.le_of_eq hk.symm))
          have hvf := hvb.out.wr_up hwf (fun k hk => by omega)
          have hkf := (hwf.block _ (Array.getElem?_eq_some_iff.1 hkb).1 (by omega)).trans hkb
          refine marks_ret1 hkf ?_
          have hwp : Wr (fun q => q = DD) ((((wb.setCell ⟨w.heap.size, 0, none⟩ (.int .i64 (pId s))).setCell ⟨w.heap.size, 1, none⟩ (.int .i64 (pSer s))).setCell ⟨w.heap.size, 2, none⟩ (.int .i64 (pMade s))).setCell ⟨w.heap.size, 3, none⟩ (.slice A9 L.length c9)) (World.putObj ((((wb.setCell ⟨w.heap.size, 0, none⟩ (.int .i64 (pId s))).setCell ⟨w.heap.size, 1, none⟩ (.int .i64 (pSer s))).setCell ⟨w.heap.size, 2, none⟩ (.int .i64 (pMade s))).setCell ⟨w.heap.size, 3, none⟩ (.slice A9 L.length c9)) DD (.deferred none)) := Wr.putObj _ rfl
          replace hyf := hyf.wr hwp (by omega)
          replace hBf := hBf.trans (hwp.below hBf.size (fun k hk => by omega))
          replace hvf := hvf.wr_up hwp (fun k hk => by omega)
          clear hwp hwf hkf
          generalize (World.putObj ((((wb.setCell ⟨w.heap.size, 0, none⟩ (.int .i64 (pId s))).setCell ⟨w.heap.size, 1, none⟩ (.int .i64 (pSer s))).setCell ⟨w.heap.size, 2, none⟩ (.int .i64 (pMade s))).setCell ⟨w.heap.size, 3, none⟩ (.slice A9 L.length c9)) DD (.deferred none)) = wf at *
          obtain ⟨j0, j1, j2, j3, _, _, _, _, jl⟩ := hyf.cellsT
          refine ⟨.tuple #[.agg #[.int .i64 (pId s), .int .i64 (pSer s), .int .i64 (pMade s), .slice A9 L.length c9], .bool true], by simp [results, Tryd.results7, go_sem, jl, j0, j1, j2, j3], A9, c9, ?_, ?_, hBf⟩
          · rw [Hv.out.2, Hv.out.1]; rfl
          · rw [Hv.out.2]; exact hvf.mono (by omega)
        · have Hv := Lib.hid (ok_no HE.out (.inr h2))
          have h3 : ((recTx (pId s) (pSer s) (pMade s) L).toList == s.toList) = false := str_ne h2
          clear h2
          go_wp2_with fail
          refine (IsRecord_any _ _ _ A9 c9 L _ (hv9.out.ls encEv_len) (by omega)).mono ?_
          rw [h1]
          rintro e wa ⟨rfl, qa⟩
          have hBa := blw hB9 qa
          have hya := hy9.below qa hy9.lt
          have hra := hr9.below qa hr9.lt
          have hva := Lib.hid (hv9.out.on qa)
          have Hqa := Lib.hid qa
          have hka := (qa.block _ (Array.getElem?_eq_some_iff.1 hk9).1).trans hk9
          clear qa
          have hta := tab_below ht hBa
          clear x0 x1 x2 x3 f0 f1 f2 f3 xl
          obtain ⟨x0, x1, x2, x3, f0, f1, f2, f3, xl⟩ := hra.cellsT
          go_wp2_with fail
          refine (recordText_any _ _ _ A9 c9 L _ (hva.out.ls encEv_len) h1 hta).mono ?_
          rintro e wb ⟨rfl, qb⟩
          generalize recTx (pId s) (pSer s) (pMade s) L = tx at *
          have hBb := blw hBa qb
          have hyb := hya.below qb hya.lt
          have hrb := hra.below qb hra.lt
          have hvb := Lib.hid (hva.out.on qb)
          have Hqb := Lib.hid qb
          have hkb := (qb.block _ (Array.getElem?_eq_some_iff.1 hka).1).trans hka
          clear qb
          clear x0 x1 x2 x3 f0 f1 f2 f3 xl
          obtain ⟨y0, y1, y2, y3, g0, g1, g2, g3, yl⟩ := hyb.cellsT
          go_wp2_with fail
          have hwf : Wr (fun q => q = w.heap.size) wb ((((wb.setCell ⟨w.heap.size, 0, none⟩ (.int .i64 0)).setCell ⟨w.heap.size, 1, none⟩ (.int .i64 0)).setCell ⟨w.heap.size, 2, none⟩ (.int .i64 0)).setCell ⟨w.heap.size, 3, none⟩ (.slice none 0 0)) := (Wr.setCell (p := ⟨w.heap.size, 3, none⟩) (Wr.setCell (p := ⟨w.heap.size, 2, none⟩) (Wr.setCell (p := ⟨w.heap.size, 1, none⟩) (Wr.setCell (p := ⟨w.heap.size, 0, none⟩) (Wr.refl (fun q => q = w.heap.size) wb) (.inl rfl) (.int .i64 0)) (.inl rfl) (.int .i64 0)) (.inl rfl) (.int .i64 0)) (.inl rfl) (.slice none 0 0))
          have hyf : Blk ((((wb.setCell ⟨w.heap.size, 0, none⟩ (.int .i64 0)).setCell ⟨w.heap.size, 1, none⟩ (.int .i64 0)).setCell ⟨w.heap.size, 2, none⟩ (.int .i64 0)).setCell ⟨w.heap.size, 3, none⟩ (.slice none 0 0)) w.heap.size 24 (cellsT 0 0 0 (.slice none 0 0)) := by
            have h := ((((hyb.set_ 0 (.int .i64 0)).set_ 1 (.int .i64 0)).set_ 2 (.int .i64 0)).set_ 3 (.slice none 0 0))
            simpa [cellsT] using h
          have hBf := hBb.trans (hwf.below hBb.size (fun k hk => Nat.le_of_eq hk.symm))
          have hkf := (hwf.block _ (Array.getElem?_eq_some_iff.1 hkb).1 (by omega)).trans hkb
          refine marks_ret1 hkf ?_
          have hwp : Wr (fun q => q = DD) ((((wb.setCell ⟨w.heap.size, 0, none⟩ (.int .i64 0)).setCell ⟨w.heap.size, 1, none⟩ (.int .i64 0)).setCell ⟨w.heap.size, 2, none⟩ (.int .i64 0)).setCell ⟨w.heap.size, 3, none⟩ (.slice none 0 0)) (World.putObj ((((wb.setCell ⟨w.heap.size, 0, none⟩ (.int .i64 0)).setCell ⟨w.heap.size, 1, none⟩ (.int .i64 0)).setCell ⟨w.heap.size, 2, none⟩ (.int .i64 0)).setCell ⟨w.heap.size, 3, none⟩ (.slice none 0 0)) DD (.deferred none)) := Wr.putObj _ rfl
          replace hyf := hyf.wr hwp (by omega)
          replace hBf := hBf.trans (hwp.below hBf.size (fun k hk => by omega))
          clear hwp hwf hkf
          generalize (World.putObj ((((wb.setCell ⟨w.heap.size, 0, none⟩ (.int .i64 0)).setCell ⟨w.heap.size, 1, none⟩ (.int .i64 0)).setCell ⟨w.heap.size, 2, none⟩ (.int .i64 0)).setCell ⟨w.heap.size, 3, none⟩ (.slice none 0 0)) DD (.deferred none)) = wf at *
          obtain ⟨j0, j1, j2, j3, _, _, _, _, jl⟩ := hyf.cellsT
          refine ⟨.tuple #[.agg #[.int .i64 0, .int .i64 0, .int .i64 0, .slice none 0 0], .bool false], by simp [results, Tryd.results7, go_sem, jl, j0, j1, j2, j3], none, 0, ?_, ?_, hBf⟩
          · rw [Hv.out.2, Hv.out.1]; rfl
          · rw [Hv.out.2]; exact Vec.nil
end Go.Proofs.YtopfcfedcmpamaaDoor
