/- Contracts of DropEvent, as the law takes them. -/
import Derived.Test.YtjbklopkginegaaD2e
import Derived.Test.YtjbklopkginegaaSe
namespace Go.Proofs.Ytjbklopkginegaa
set_option linter.unusedVariables false
set_option linter.unusedSimpArgs false
open Go.RowKit
attribute [local go_sem] Aft.cell

/-- A record handed back, its events in memory of the call's own. -/
def RetR (w : World) (id series made : Int) (l : List Ev) (e : Ending) (w' : World) : Prop :=
  ∃ A c, e = .returned (.agg #[.int .i64 id, .int .i64 series, .int .i64 made, .slice A l.length c]) ∧ Vec w' w.heap.size 49 encEv 2 (.slice A l.length c) l ∧ Below w.heap.size w w'
def RetRB (w : World) (id series made : Int) (l : List Ev) (b : Bool) (e : Ending) (w' : World) : Prop :=
  ∃ A c, e = .returned (.tuple #[.agg #[.int .i64 id, .int .i64 series, .int .i64 made, .slice A l.length c], .bool b]) ∧ Vec w' w.heap.size 49 encEv 2 (.slice A l.length c) l ∧ Below w.heap.size w w'

def cellsT (id series made : Int) (v : Value) : Array Value := #[.int .i64 id, .int .i64 series, .int .i64 made, v]
/-- The cells of a record's block, none of them marked. -/
structure CellsT (w : World) (g : Nat) (id series made : Int) (v : Value) : Prop where
  c0 : w.cell? ⟨g, 0, none⟩ = some (.int .i64 id)
  c1 : w.cell? ⟨g, 1, none⟩ = some (.int .i64 series)
  c2 : w.cell? ⟨g, 2, none⟩ = some (.int .i64 made)
  c3 : w.cell? ⟨g, 3, none⟩ = some v
  f0 : w.frozen? ⟨g, 0, none⟩ = false
  f1 : w.frozen? ⟨g, 1, none⟩ = false
  f2 : w.frozen? ⟨g, 2, none⟩ = false
  f3 : w.frozen? ⟨g, 3, none⟩ = false
  lt : g < w.heap.size
theorem Blk.cellsT {w : World} {g : Nat} {t : TypeId} {id series made : Int} {v : Value} (h : Blk w g t (cellsT id series made v)) : CellsT w g id series made v :=
  ⟨h.cell 0, h.cell 1, h.cell 2, h.cell 3, h.frozen 0, h.frozen 1, h.frozen 2, h.frozen 3, h.lt⟩

set_option maxHeartbeats 1000000 in
theorem copyRecord_any (id series made : Int) (A : Option Addr) (c : Nat) (l : List Ev) (w : World) (hl : Ls w w.heap.size encEv 2 A l) (hm : l.length ≤ 1048576) :
    Calls Try.prog 61 #[.agg #[.int .i64 id, .int .i64 series, .int .i64 made, .slice A l.length c]] w (RetR w id series made l) := by
  have hb1 := Blk.new w 30 (cellsT id series made (.slice A l.length c))
  have hb2 := hb1.alloc (.cells (cellsT 0 0 0 (.slice none 0 0)) 30)
  have hb3 : Blk ((w.alloc (.cells (cellsT id series made (.slice A l.length c)) 30)).alloc (.cells (cellsT 0 0 0 (.slice none 0 0)) 30)) (w.heap.size + 1) 30 (cellsT 0 0 0 (.slice none 0 0)) := by
    have h := Blk.new (w.alloc (.cells (cellsT id series made (.slice A l.length c)) 30)) 30 (cellsT 0 0 0 (.slice none 0 0))
    simpa using h
  have hB := blw_alloc (blw_alloc (Below.refl w.heap.size w) (.cells (cellsT id series made (.slice A l.length c)) 30)) (.cells (cellsT 0 0 0 (.slice none 0 0)) 30)
  have hl0 := ((hl.alloc (Nat.le_refl _) (.cells (cellsT id series made (.slice A l.length c)) 30)).alloc (by simp) (.cells (cellsT 0 0 0 (.slice none 0 0)) 30)).more (B' := ((w.alloc (.cells (cellsT id series made (.slice A l.length c)) 30)).alloc (.cells (cellsT 0 0 0 (.slice none 0 0)) 30)).heap.size) (by simp; omega)
  have hs0 : ((w.alloc (.cells (cellsT id series made (.slice A l.length c)) 30)).alloc (.cells (cellsT 0 0 0 (.slice none 0 0)) 30)).heap.size = w.heap.size + 2 := by simp
  go_enter Try.func61, Try.ntmps61
  go_wp2_with fail
  change Calls Try.prog 68 _ ((w.alloc (.cells (cellsT id series made (.slice A l.length c)) 30)).alloc (.cells (cellsT 0 0 0 (.slice none 0 0)) 30)) _
  generalize ((w.alloc (.cells (cellsT id series made (.slice A l.length c)) 30)).alloc (.cells (cellsT 0 0 0 (.slice none 0 0)) 30)) = W0 at *
  refine (Clone_Event _ _ l _ hl0 hm).mono ?_
  rintro e w3 ⟨A3, c3, rfl, hv3, hb⟩
  have hx := hb2.below hb (by omega)
  have hy := hb3.below hb (by omega)
  obtain ⟨x0, x1, x2, x3, f0, f1, f2, f3, xl⟩ := hx.cellsT
  obtain ⟨y0, y1, y2, y3, g0, g1, g2, g3, yl⟩ := hy.cellsT
  have Hv := Lib.hid (show Vec w3 (w.heap.size + 2) 49 encEv 2 (.slice A3 l.length c3) l from hs0 ▸ hv3)
  have HB := Lib.hid (hB.trans (hb.mono hB.size))
  clear hb1 hb2 hb3 hB hl0 hs0 hv3 hb hx hy
  go_wp2_with fail
  refine bodyPost_ret (v := .agg #[.int .i64 id, .int .i64 series, .int .i64 made, .slice A3 l.length c3]) (by simp [results, Try.results61, go_sem, yl, y0, y1, y2, y3]) rfl ⟨A3, c3, rfl, ?_, ?_⟩
  · have hw : Wr (fun q => q < w.heap.size + 2) w3 (((((w3.setCell ⟨w.heap.size, 3, none⟩ (.slice A3 l.length c3)).setCell ⟨w.heap.size + 1, 0, none⟩ (.int .i64 id)).setCell ⟨w.heap.size + 1, 1, none⟩ (.int .i64 series)).setCell ⟨w.heap.size + 1, 2, none⟩ (.int .i64 made)).setCell ⟨w.heap.size + 1, 3, none⟩ (.slice A3 l.length c3)) :=
      (((((Wr.refl (fun q => q < w.heap.size + 2) w3).setCell (.inl (by simp)) _).setCell (.inl (by simp)) _).setCell (.inl (by simp)) _).setCell (.inl (by simp)) _).setCell (.inl (by simp)) _
    exact (Hv.out.wr_up hw (fun k hk hS => by omega)).mono (by omega)
  · exact (((((HB.out.setCell (Nat.le_refl _) _).setCell (Nat.le_succ _) _).setCell (Nat.le_succ _) _).setCell (Nat.le_succ _) _).setCell (Nat.le_succ _) _)

set_option maxHeartbeats 4000000 in
theorem c_impl_DropEvent (id series made : Int) (A : Option Addr) (c : Nat) (l : List Ev) (k : Int) (w : World) (hl : Ls w w.heap.size encEv 2 A l) (hm : l.length ≤ 1048576) :
    Calls Try.prog 26 #[.agg #[.int .i64 id, .int .i64 series, .int .i64 made, .slice A l.length c], .int .i64 k] w (RetRB w (keepI (dropEB id series made l k) id) (keepI (dropEB id series made l k) series) (keepI (dropEB id series made l k) made) (dropEL id series made l k) (dropEB id series made l k)) := by
  have hb1 := Blk.new w 30 (cellsT id series made (.slice A l.length c))
  have hb2 := hb1.alloc (.cells (cellsT 0 0 0 (.slice none 0 0)) 30)
  have hb3 : Blk ((w.alloc (.cells (cellsT id series made (.slice A l.length c)) 30)).alloc (.cells (cellsT 0 0 0 (.slice none 0 0)) 30)) (w.heap.size + 1) 30 (cellsT 0 0 0 (.slice none 0 0)) := by
    have h := Blk.new (w.alloc (.cells (cellsT id series made (.slice A l.length c)) 30)) 30 (cellsT 0 0 0 (.slice none 0 0))
    simpa using h
  have hB := blw_alloc (blw_alloc (Below.refl w.heap.size w) (.cells (cellsT id series made (.slice A l.length c)) 30)) (.cells (cellsT 0 0 0 (.slice none 0 0)) 30)
  have hl0 := ((hl.alloc (Nat.le_refl _) (.cells (cellsT id series made (.slice A l.length c)) 30)).alloc (by simp) (.cells (cellsT 0 0 0 (.slice none 0 0)) 30)).more (B' := ((w.alloc (.cells (cellsT id series made (.slice A l.length c)) 30)).alloc (.cells (cellsT 0 0 0 (.slice none 0 0)) 30)).heap.size) (by simp; omega)
  have hs0 : ((w.alloc (.cells (cellsT id series made (.slice A l.length c)) 30)).alloc (.cells (cellsT 0 0 0 (.slice none 0 0)) 30)).heap.size = w.heap.size + 2 := by simp
  have hm' : l.length ≤ 9223372036854775807 := by omega
  cases h1 : recB id series made l
  · have Hv := Lib.hid (show dropEL id series made l k = [] ∧ (dropEB id series made l k) = false by simp [dropEL, dropEB, h1])
    go_enter Try.func26, Try.ntmps26
    go_wp2_with fail
    change Calls Try.prog 60 _ ((w.alloc (.cells (cellsT id series made (.slice A l.length c)) 30)).alloc (.cells (cellsT 0 0 0 (.slice none 0 0)) 30)) _
    generalize ((w.alloc (.cells (cellsT id series made (.slice A l.length c)) 30)).alloc (.cells (cellsT 0 0 0 (.slice none 0 0)) 30)) = W0 at *
    refine (eventAt_any _ _ _ _ _ l _ _ hl0 hm').mono ?_
    generalize idxI l k = z at *
    rintro e w1 ⟨rfl, hq1⟩
    have hx1 := hb2.below hq1 (by omega)
    have hy1 := hb3.below hq1 (by omega)
    have hl1 := (hl0.below hq1).more hq1.size
    have hB1 := hB.trans (hq1.mono hB.size)
    obtain ⟨x0, x1, x2, x3, f0, f1, f2, f3, xl⟩ := hx1.cellsT
    go_wp2_with fail
    refine (IsRecord_any _ _ _ _ _ l _ hl1 hm').mono ?_
    rw [h1]
    rintro e w2 ⟨rfl, hq2⟩
    have hB2 := blw hB1 hq2
    have hx2 := hx1.below hq2 hx1.lt
    have hy2 := hy1.below hq2 hy1.lt
    have hl2 := (hl1.below hq2).more hq2.size
    clear x0 x1 x2 x3 f0 f1 f2 f3 xl
    obtain ⟨x0, x1, x2, x3, f0, f1, f2, f3, xl⟩ := hx2.cellsT
    obtain ⟨y0, y1, y2, y3, g0, g1, g2, g3, yl⟩ := hy2.cellsT
    go_wp2_with fail
    refine bodyPost_ret (v := .tuple #[.agg #[.int .i64 0, .int .i64 0, .int .i64 0, .slice none 0 0], .bool false]) (by simp [results, Try.results26, go_sem, yl, y0, y1, y2, y3]) rfl ⟨none, 0, ?_, ?_, ?_⟩
    · rw [Hv.out.1, Hv.out.2]; rfl
    · rw [Hv.out.1]; exact Vec.nil
    · exact ((((hB2.setCell (Nat.le_succ _) _).setCell (Nat.le_succ _) _).setCell (Nat.le_succ _) _).setCell (Nat.le_succ _) _)
  · cases hf : hasE l k
    · have Hv := Lib.hid (show dropEL id series made l k = [] ∧ (dropEB id series made l k) = false by simp [dropEL, dropEB, h1, hf])
      have Hz := Lib.hid (show idxI l k = -1 by simp [idxI, hf])
      go_enter Try.func26, Try.ntmps26
      go_wp2_with fail
      change Calls Try.prog 60 _ ((w.alloc (.cells (cellsT id series made (.slice A l.length c)) 30)).alloc (.cells (cellsT 0 0 0 (.slice none 0 0)) 30)) _
      generalize ((w.alloc (.cells (cellsT id series made (.slice A l.length c)) 30)).alloc (.cells (cellsT 0 0 0 (.slice none 0 0)) 30)) = W0 at *
      refine (eventAt_any _ _ _ _ _ l _ _ hl0 hm').mono ?_
      rw [Hz.out]
      rintro e w1 ⟨rfl, hq1⟩
      have hx1 := hb2.below hq1 (by omega)
      have hy1 := hb3.below hq1 (by omega)
      have hl1 := (hl0.below hq1).more hq1.size
      have hB1 := hB.trans (hq1.mono hB.size)
      obtain ⟨x0, x1, x2, x3, f0, f1, f2, f3, xl⟩ := hx1.cellsT
      go_wp2_with fail
      refine (IsRecord_any _ _ _ _ _ l _ hl1 hm').mono ?_
      rw [h1]
      rintro e w2 ⟨rfl, hq2⟩
      have hB2 := blw hB1 hq2
      have hx2 := hx1.below hq2 hx1.lt
      have hy2 := hy1.below hq2 hy1.lt
      have hl2 := (hl1.below hq2).more hq2.size
      clear x0 x1 x2 x3 f0 f1 f2 f3 xl
      obtain ⟨x0, x1, x2, x3, f0, f1, f2, f3, xl⟩ := hx2.cellsT
      obtain ⟨y0, y1, y2, y3, g0, g1, g2, g3, yl⟩ := hy2.cellsT
      go_wp2_with fail
      refine bodyPost_ret (v := .tuple #[.agg #[.int .i64 0, .int .i64 0, .int .i64 0, .slice none 0 0], .bool false]) (by simp [results, Try.results26, go_sem, yl, y0, y1, y2, y3]) rfl ⟨none, 0, ?_, ?_, ?_⟩
      · rw [Hv.out.1, Hv.out.2]; rfl
      · rw [Hv.out.1]; exact Vec.nil
      · exact ((((hB2.setCell (Nat.le_succ _) _).setCell (Nat.le_succ _) _).setCell (Nat.le_succ _) _).setCell (Nat.le_succ _) _)
    · have Hv := Lib.hid (show dropEL id series made l k = l.take (idxE l k) ++ l.drop (idxE l k + 1) ∧ (dropEB id series made l k) = true by rw [← wE_at h1 hf]; simp [dropEL, dropEB, h1, hf])
      have Hz := Lib.hid (show idxI l k = (idxE l k : Int) by simp [idxI, hf])
      have hi := hasE_lt hf
      have hl6 := (evB_of_rec h1).2.2.1
      clear hf
      go_enter Try.func26, Try.ntmps26
      go_wp2_with fail
      change Calls Try.prog 60 _ ((w.alloc (.cells (cellsT id series made (.slice A l.length c)) 30)).alloc (.cells (cellsT 0 0 0 (.slice none 0 0)) 30)) _
      generalize ((w.alloc (.cells (cellsT id series made (.slice A l.length c)) 30)).alloc (.cells (cellsT 0 0 0 (.slice none 0 0)) 30)) = W0 at *
      refine (eventAt_any _ _ _ _ _ l _ _ hl0 hm').mono ?_
      rw [Hz.out]
      generalize idxE l k = z at *
      rintro e w1 ⟨rfl, hq1⟩
      have hx1 := hb2.below hq1 (by omega)
      have hy1 := hb3.below hq1 (by omega)
      have hl1 := (hl0.below hq1).more hq1.size
      have hB1 := hB.trans (hq1.mono hB.size)
      obtain ⟨x0, x1, x2, x3, f0, f1, f2, f3, xl⟩ := hx1.cellsT
      go_wp2_with fail
      refine (IsRecord_any _ _ _ _ _ l _ hl1 hm').mono ?_
      rw [h1]
      rintro e w2 ⟨rfl, hq2⟩
      have hB2 := blw hB1 hq2
      have hx2 := hx1.below hq2 hx1.lt
      have hy2 := hy1.below hq2 hy1.lt
      have hl2 := (hl1.below hq2).more hq2.size
      clear x0 x1 x2 x3 f0 f1 f2 f3 xl
      obtain ⟨x0, x1, x2, x3, f0, f1, f2, f3, xl⟩ := hx2.cellsT
      go_wp2_with fail
      refine (copyRecord_any _ _ _ _ _ l _ hl2 hm).mono ?_
      rintro e w3 ⟨A3, c3, rfl, hv3, hq3⟩
      have hr := hv3.2
      rcases hr with ⟨h3, h4⟩ | ⟨g, cap, cur, h3, _⟩
      · omega
      · simp at h3
        obtain ⟨rfl, rfl⟩ := h3
        have hlt0 : 0 < l.length := by omega
        have hbg := hv3.block ⟨0, rfl⟩
        have hB3 := blw hB2 hq3
        have hy3 := hy2.below hq3 hy2.lt
        have hv4 := hv3.alloc (.cells (cellsT id series made (.slice (some ⟨g, 0, none⟩) l.length c3)) 30)
        have ho4 := Blk.new w3 30 (cellsT id series made (.slice (some ⟨g, 0, none⟩) l.length c3))
        have hy4 := hy3.alloc (.cells (cellsT id series made (.slice (some ⟨g, 0, none⟩) l.length c3)) 30)
        have hB4 := blw_alloc hB3 (.cells (cellsT id series made (.slice (some ⟨g, 0, none⟩) l.length c3)) 30)
        have hs4 : (w3.alloc (.cells (cellsT id series made (.slice (some ⟨g, 0, none⟩) l.length c3)) 30)).heap.size = w3.heap.size + 1 := by simp
        have hyl2 := hy2.lt
        go_wp2_with fail
        change Calls Try.prog 62 _ (w3.alloc (.cells (cellsT id series made (.slice (some ⟨g, 0, none⟩) l.length c3)) 30)) _
        generalize (w3.alloc (.cells (cellsT id series made (.slice (some ⟨g, 0, none⟩) l.length c3)) 30)) = W4 at *
        refine (Delete_Event g c3 z w2.heap.size l _ hv4 hm hi).mono ?_
        rintro e w5 ⟨rfl, hv5, hw5⟩
        have hne : ¬ w3.heap.size = g := by omega
        have hne2 : ¬ w.heap.size + 1 = g := by omega
        obtain ⟨o0, o1, o2, o3, p0, p1, p2, p3, ol⟩ := (ho4.wr hw5 hne).cellsT
        obtain ⟨y0, y1, y2, y3, g0, g1, g2, g3, yl⟩ := (hy4.wr hw5 hne2).cellsT
        have hlz : (l.take z ++ l.drop (z + 1)).length = l.length - 1 := by simp; omega
        have Hlz := Lib.hid hlz
        have hns : ¬ w.heap.size + 1 = w3.heap.size := by have := hq3.size; omega
        have hns2 : ¬ w3.heap.size = w.heap.size + 1 := by omega
        have hge : w.heap.size ≤ w3.heap.size := hB3.size
        have HB5 := Lib.hid (hB4.trans (hw5.below hB4.size (fun q hq => by have := hB2.size; omega)))
        have Hv5 := Lib.hid hv5
        clear hlz hv5 hv4 hv3 hB4 ho4 hy4
        go_wp2_with fail
        refine bodyPost_ret (v := .tuple #[.agg #[.int .i64 id, .int .i64 series, .int .i64 made, .slice (some ⟨g, 0, none⟩) (l.length - 1) c3], .bool true]) (by simp [results, Try.results26, go_sem, yl, y0, y1, y2, y3, hns, hns2]) rfl ⟨some ⟨g, 0, none⟩, c3, ?_, ?_, ?_⟩
        · rw [Hv.out.1, Hv.out.2, Hlz.out]; rfl
        · rw [Hv.out.1, Hlz.out]
          have hw := ((((((Wr.refl (fun q => q = w3.heap.size ∨ q = w.heap.size + 1) w5).setCell (p := ⟨w3.heap.size, 3, none⟩) (.inl (.inl rfl)) (.slice (some ⟨g, 0, none⟩) (l.length - 1) c3)).setCell (p := ⟨w.heap.size + 1, 0, none⟩) (.inl (.inr rfl)) (.int .i64 id)).setCell (p := ⟨w.heap.size + 1, 1, none⟩) (.inl (.inr rfl)) (.int .i64 series)).setCell (p := ⟨w.heap.size + 1, 2, none⟩) (.inl (.inr rfl)) (.int .i64 made)).setCell (p := ⟨w.heap.size + 1, 3, none⟩) (.inl (.inr rfl)) (.slice (some ⟨g, 0, none⟩) (l.length - 1) c3))
          exact (Hv5.out.wr hw (fun q hq hS => by simp [Value.ownBlock] at hq; omega)).mono (by have := hB2.size; omega)
        · exact (((((HB5.out.setCell hge _).setCell (Nat.le_succ _) _).setCell (Nat.le_succ _) _).setCell (Nat.le_succ _) _).setCell (Nat.le_succ _) _)

end Go.Proofs.Ytjbklopkginegaa
