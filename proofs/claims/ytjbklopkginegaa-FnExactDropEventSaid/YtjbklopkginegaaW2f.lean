/- The contract of spec.DropEvent. -/
import Derived.Test.YtjbklopkginegaaW2e
import Derived.Test.YtjbklopkginegaaW6c
namespace Go.Proofs.Ytjbklopkginegaa
set_option linter.unusedVariables false
set_option linter.unusedSimpArgs false
open Go.RowKit
attribute [local go_sem] Aft.cell

theorem Vec.ne_blk {α : Type} {w : World} {b1 p : Nat} {t1 t2 : TypeId} {e1 : α → List Value} {z1 : Nat} {A1 : Option Addr} {n1 c1 : Nat} {l1 : List α} {cs : Array Value}
    (h1 : Vec w b1 t1 e1 z1 (.slice A1 n1 c1) l1) (hb : Blk w p t2 cs) (ht : t1 ≠ t2) : ¬ blkOf A1 p := by
  rintro ⟨o, rfl⟩
  rcases h1.2 with ⟨h, _⟩ | ⟨g, cap, cur, h, _, hg, _⟩
  · simp at h
  · simp at h
    obtain ⟨⟨rfl, _⟩, _⟩ := h
    unfold Blk at hb
    rw [hg] at hb
    simp at hb
    exact ht hb.2

set_option maxHeartbeats 4000000 in
set_option maxRecDepth 100000 in
theorem c_spec_DropEvent (id series made : Int) (A : Option Addr) (c : Nat) (l : List Ev) (k : Int) (w : World) (hl : Ls w w.heap.size encEv 2 A l) (hm : l.length ≤ 1048576) :
    Calls Try.prog 25 #[.agg #[.int .i64 id, .int .i64 series, .int .i64 made, .slice A l.length c], .int .i64 k] w (RetRB w (keepI (dropEB id series made l k) id) (keepI (dropEB id series made l k) series) (keepI (dropEB id series made l k) made) (dropEL id series made l k) (dropEB id series made l k)) := by
  have hb1 := Blk.new w 30 (cellsT id series made (.slice A l.length c))
  have hb2 := hb1.alloc (.cells (cellsT 0 0 0 (.slice none 0 0)) 30)
  have hb3 : Blk ((w.alloc (.cells (cellsT id series made (.slice A l.length c)) 30)).alloc (.cells (cellsT 0 0 0 (.slice none 0 0)) 30)) (w.heap.size + 1) 30 (cellsT 0 0 0 (.slice none 0 0)) := by
    have h := Blk.new (w.alloc (.cells (cellsT id series made (.slice A l.length c)) 30)) 30 (cellsT 0 0 0 (.slice none 0 0))
    simpa using h
  have hB := blw_alloc (blw_alloc (Below.refl w.heap.size w) (.cells (cellsT id series made (.slice A l.length c)) 30)) (.cells (cellsT 0 0 0 (.slice none 0 0)) 30)
  have hl0 := ((hl.alloc (Nat.le_refl _) (.cells (cellsT id series made (.slice A l.length c)) 30)).alloc (by simp) (.cells (cellsT 0 0 0 (.slice none 0 0)) 30)).more (B' := ((w.alloc (.cells (cellsT id series made (.slice A l.length c)) 30)).alloc (.cells (cellsT 0 0 0 (.slice none 0 0)) 30)).heap.size) (by simp; omega)
  have hs0 : ((w.alloc (.cells (cellsT id series made (.slice A l.length c)) 30)).alloc (.cells (cellsT 0 0 0 (.slice none 0 0)) 30)).heap.size = w.heap.size + 2 := by simp
  have hm' : l.length ≤ 9223372036854775807 := by omega
  cases h1 : recB id series made l
  · have Hv := Lib.hid (show dropEL id series made l k = [] ∧ (dropEB id series made l k) = false by simp [dropEL, dropEB, h1])
    go_enter Try.func25, Try.ntmps25
    go_wp2_with fail
    change Calls Try.prog 52 _ ((w.alloc (.cells (cellsT id series made (.slice A l.length c)) 30)).alloc (.cells (cellsT 0 0 0 (.slice none 0 0)) 30)) _
    generalize ((w.alloc (.cells (cellsT id series made (.slice A l.length c)) 30)).alloc (.cells (cellsT 0 0 0 (.slice none 0 0)) 30)) = W0 at *
    refine (l2Record_any _ _ _ _ _ l _ hl0 hm').mono ?_
    rw [h1]
    rintro e w2 ⟨rfl, hq2⟩
    have hx2 := hb2.below hq2 (by omega)
    have hy2 := hb3.below hq2 (by omega)
    have hl2 := (hl0.below hq2).more hq2.size
    have hB2 := hB.trans (hq2.mono hB.size)
    obtain ⟨x0, x1, x2, x3, f0, f1, f2, f3, xl⟩ := hx2.cellsT
    obtain ⟨y0, y1, y2, y3, g0, g1, g2, g3, yl⟩ := hy2.cellsT
    go_wp2_with fail
    refine bodyPost_ret (v := .tuple #[.agg #[.int .i64 0, .int .i64 0, .int .i64 0, .slice none 0 0], .bool false]) (by simp [results, Try.results25, go_sem, yl, y0, y1, y2, y3]) rfl ⟨none, 0, ?_, ?_, ?_⟩
    · rw [Hv.out.1, Hv.out.2]; rfl
    · rw [Hv.out.1]; exact Vec.nil
    · exact ((((hB2.setCell (Nat.le_succ _) _).setCell (Nat.le_succ _) _).setCell (Nat.le_succ _) _).setCell (Nat.le_succ _) _)
  · cases hk0 : k == 0
    · have hdv := dayV_neg k h1
      cases hf : hasE l k
      · have Hv := Lib.hid (show dropEL id series made l k = [] ∧ (dropEB id series made l k) = false by simp [dropEL, dropEB, h1, hf])
        have hd : decide (dayV made l k < 0) = true := by rw [hdv]; simp at hk0; simp [okD, hk0, hf]
        clear hdv
        go_enter Try.func25, Try.ntmps25
        go_wp2_with fail
        change Calls Try.prog 52 _ ((w.alloc (.cells (cellsT id series made (.slice A l.length c)) 30)).alloc (.cells (cellsT 0 0 0 (.slice none 0 0)) 30)) _
        generalize ((w.alloc (.cells (cellsT id series made (.slice A l.length c)) 30)).alloc (.cells (cellsT 0 0 0 (.slice none 0 0)) 30)) = W0 at *
        refine (l2Record_any _ _ _ _ _ l _ hl0 hm').mono ?_
        rw [h1]
        rintro e w2 ⟨rfl, hq2⟩
        have hx2 := hb2.below hq2 (by omega)
        have hy2 := hb3.below hq2 (by omega)
        have hl2 := (hl0.below hq2).more hq2.size
        have hB2 := hB.trans (hq2.mono hB.size)
        obtain ⟨x0, x1, x2, x3, f0, f1, f2, f3, xl⟩ := hx2.cellsT
        go_wp2_with fail
        refine (l2DayOf_any _ _ _ _ _ l _ _ hl2 hm').mono ?_
        generalize dayV made l k = dv at *
        rintro e w3 ⟨rfl, hq3⟩
        replace hx2 := hx2.below hq3 hx2.lt
        replace hy2 := hy2.below hq3 hy2.lt
        replace hB2 := blw hB2 hq3
        clear x0 x1 x2 x3 f0 f1 f2 f3 xl
        obtain ⟨x0, x1, x2, x3, f0, f1, f2, f3, xl⟩ := hx2.cellsT
        obtain ⟨y0, y1, y2, y3, g0, g1, g2, g3, yl⟩ := hy2.cellsT
        go_wp2_with fail
        refine bodyPost_ret (v := .tuple #[.agg #[.int .i64 0, .int .i64 0, .int .i64 0, .slice none 0 0], .bool false]) (by simp [results, Try.results25, go_sem, yl, y0, y1, y2, y3]) rfl ⟨none, 0, ?_, ?_, ?_⟩
        · rw [Hv.out.1, Hv.out.2]; rfl
        · rw [Hv.out.1]; exact Vec.nil
        · exact ((((hB2.setCell (Nat.le_succ _) _).setCell (Nat.le_succ _) _).setCell (Nat.le_succ _) _).setCell (Nat.le_succ _) _)
      · have Hv := Lib.hid (show dropEL id series made l k = wEK l k l.length ∧ (dropEB id series made l k) = true by rw [wEK_end]; simp [dropEL, dropEB, h1, hf])
        have hd : decide (dayV made l k < 0) = false := by rw [hdv]; simp [okD, hf]
        have hlen : (l.length : Int) ≤ 1048576 := by omega
        clear hdv hf
        go_enter Try.func25, Try.ntmps25
        go_wp2_with fail
        change Calls Try.prog 52 _ ((w.alloc (.cells (cellsT id series made (.slice A l.length c)) 30)).alloc (.cells (cellsT 0 0 0 (.slice none 0 0)) 30)) _
        generalize ((w.alloc (.cells (cellsT id series made (.slice A l.length c)) 30)).alloc (.cells (cellsT 0 0 0 (.slice none 0 0)) 30)) = W0 at *
        refine (l2Record_any _ _ _ _ _ l _ hl0 hm').mono ?_
        rw [h1]
        rintro e w2 ⟨rfl, hq2⟩
        have hx2 := hb2.below hq2 (by omega)
        have hy2 := hb3.below hq2 (by omega)
        have hl2 := (hl0.below hq2).more hq2.size
        have hB2 := hB.trans (hq2.mono hB.size)
        obtain ⟨x0, x1, x2, x3, f0, f1, f2, f3, xl⟩ := hx2.cellsT
        go_wp2_with fail
        refine (l2DayOf_any _ _ _ _ _ l _ _ hl2 hm').mono ?_
        generalize dayV made l k = dv at *
        rintro e w3 ⟨rfl, hq3⟩
        replace hx2 := hx2.below hq3 hx2.lt
        replace hy2 := hy2.below hq3 hy2.lt
        replace hB2 := blw hB2 hq3
        clear x0 x1 x2 x3 f0 f1 f2 f3 xl
        obtain ⟨x0, x1, x2, x3, f0, f1, f2, f3, xl⟩ := hx2.cellsT
        have hmk : Vec ((w3.alloc (.cells #[] 49)).alloc (.cells (cellsT id series made (.slice (some ⟨w3.heap.size, 0, none⟩) 0 0)) 30)) w.heap.size 49 encEv 2 (.slice (some ⟨w3.heap.size, 0, none⟩) 0 0) [] := (Vec.empty w3 w.heap.size 49 hB2.size).alloc _
        have hob : Blk ((w3.alloc (.cells #[] 49)).alloc (.cells (cellsT id series made (.slice (some ⟨w3.heap.size, 0, none⟩) 0 0)) 30)) (w3.heap.size + 1) 30 (cellsT id series made (.slice (some ⟨w3.heap.size, 0, none⟩) 0 0)) := by
          have h := Blk.new (w3.alloc (.cells #[] 49)) 30 (cellsT id series made (.slice (some ⟨w3.heap.size, 0, none⟩) 0 0))
          simpa using h
        have hI : Hid (Blk ((w3.alloc (.cells #[] 49)).alloc (.cells (cellsT id series made (.slice (some ⟨w3.heap.size, 0, none⟩) 0 0)) 30)) w.heap.size 30 (cellsT id series made (.slice A l.length c)) ∧ Blk ((w3.alloc (.cells #[] 49)).alloc (.cells (cellsT id series made (.slice (some ⟨w3.heap.size, 0, none⟩) 0 0)) 30)) (w.heap.size + 1) 30 (cellsT 0 0 0 (.slice none 0 0)) ∧ Below w.heap.size w ((w3.alloc (.cells #[] 49)).alloc (.cells (cellsT id series made (.slice (some ⟨w3.heap.size, 0, none⟩) 0 0)) 30))) :=
          ⟨(hx2.alloc _).alloc _, (hy2.alloc _).alloc _, blw_alloc (blw_alloc hB2 _) _⟩
        have hgap : w.heap.size + 1 < w3.heap.size := hy2.lt
        clear hb1 hb2 hb3 hB hl0 hs0 hq2 hl2 hq3 hx2 hy2 hB2
        go_wp2_with fail
        go_loopw [7] (fun i wr => ∃ (n : Nat) (A' : Option Addr) (c' : Nat), n ≤ l.length ∧ i = .int .i64 n ∧ Vec wr w.heap.size 49 encEv 2 (.slice A' (wEK l k n).length c') (wEK l k n) ∧ Blk wr (w3.heap.size + 1) 30 (cellsT id series made (.slice A' (wEK l k n).length c')) ∧ Blk wr w.heap.size 30 (cellsT id series made (.slice A l.length c)) ∧ Blk wr (w.heap.size + 1) 30 (cellsT 0 0 0 (.slice none 0 0)) ∧ Below w.heap.size w wr) (fun i _ => l.length - (intOf i).toNat)
        case atStart => exact ⟨0, some ⟨w3.heap.size, 0, none⟩, 0, Nat.zero_le _, rfl, hmk, hob, hI.out⟩
        case round =>
          clear hmk hob hI x0 x1 x2 x3 f0 f1 f2 f3 xl
          obtain ⟨n, A', c', hn, rfl, hv, ho, hx, hy, hb⟩ := hrel
          obtain ⟨x0, x1, x2, x3, f0, f1, f2, f3, xl⟩ := hx.cellsT
          obtain ⟨o0, o1, o2, o3, p0, p1, p2, p3, ol⟩ := ho.cellsT
          by_cases hlt : n < l.length
          · obtain ⟨b, off, rfl, hbb, hc0, hc1⟩ := (hl.below hb).at_Event hlt
            have hbw : b < wr.heap.size := Nat.lt_of_lt_of_le hbb hb.size
            have hle := wEK_le l k n
            have hi0 : (0 : Int) ≤ (n : Int) := by omega
            have hi1 : (n : Int) < (l.length : Int) := by omega
            have hF1 : (wEK l k n).length + [l[n]].length ≤ maxLen := by unfold maxLen; simp; omega
            have hF2 : ((wEK l k n).length + [l[n]].length) * 16 ≤ 140737488355328 := by simp; omega
            cases hh : l[n].1 == k
            · have he := Lib.hid (wEK_yes hlt hh)
              have hne : (l[n].1 != k) = true := by simp at hh; simp [hh]
              have hvd := hv.on (Below.refl _ _).drew
              have n1 := hv.ne_blk ho (by decide)
              have n2 := hv.ne_blk hx (by decide)
              have n3 := hv.ne_blk hy (by decide)
              have hbd : Below w.heap.size w wr.drew := hb.drew
              have hod : Blk wr.drew (w3.heap.size + 1) 30 (cellsT id series made (.slice A' (wEK l k n).length c')) := ho
              have hxd : Blk wr.drew w.heap.size 30 (cellsT id series made (.slice (some ⟨b, off, none⟩) l.length c)) := hx
              have hyd : Blk wr.drew (w.heap.size + 1) 30 (cellsT 0 0 0 (.slice none 0 0)) := hy
              clear hh
              go_wp2_with fail
              go_region_law (refine step_app rfl (.tmp 46) (.tmp 52) 28 rfl 49 (.agg #[.int .i64 0, .int .i64 0]) 2 16 Try.underlying28 (by kernel_rfl) rfl (by omega) encEv_len one_ev A' c' (wEK l k n) rfl (hvd.alloc (.cells #[.int .i64 l[n].1, .int .i64 l[n].2] 49)) _ 1 (_ + 1) [l[n]] rfl (by exact Ls.one_at (by simp) rfl) hF1 hF2 (by have h9 : w.heap.size ≤ wr.heap.size := hb.size; simp; omega) ?_; intro A2 c2 w4 hv4 hw4; have hO := (hod.alloc _).wr hw4 n1; obtain ⟨r0, r1, r2, r3, s0, s1, s2, s3, rl⟩ := hO.cellsT)
              all_goals
                have hX := (hxd.alloc (.cells #[.int .i64 l[n].1, .int .i64 l[n].2] 49)).wr hw4 n2
                have hY := (hyd.alloc (.cells #[.int .i64 l[n].1, .int .i64 l[n].2] 49)).wr hw4 n3
                have m1 := hv4.ne_blk hO (by decide)
                have Hb4 := Lib.hid ((blw_alloc hbd (.cells #[.int .i64 l[n].1, .int .i64 l[n].2] 49)).trans (hw4.below (by have h9 : w.heap.size ≤ wr.heap.size := hb.size; simp; omega) (fun q hq => (hv.block hq).1)))
                have Hall := Lib.hid (And.intro hv4 (And.intro hO (And.intro hX hY)))
                clear hv4 hO hX hY
                go_wp2_with fail
                go_roundw
                case rel =>
                  refine ⟨n + 1, A2, c2, by omega, by go_num, ?_, ?_, ?_, ?_, ?_⟩
                  · rw [he.out]
                    have hw := (Wr.refl (fun q => q = w3.heap.size + 1) w4).setCell (p := ⟨w3.heap.size + 1, 3, none⟩) (.inl rfl) (.slice A2 ((wEK l k n).length + 1) c2)
                    have h := Hall.out.1.wr hw (fun q hq hS => m1 (by
                      subst hS
                      cases A2 with
                      | none => simp [Value.ownBlock] at hq
                      | some a =>
                        rcases Hall.out.1.2 with ⟨h, _⟩ | ⟨g, cap, cur, h, _, hg, _⟩
                        · simp at h
                        · simp at h
                          obtain ⟨rfl, _⟩ := h
                          simp [Value.ownBlock] at hq
                          exact ⟨0, by rw [hq]⟩))
                    exact h
                  · rw [he.out]
                    have h := Hall.out.2.1.set_ 3 (.slice A2 ((wEK l k n).length + 1) c2)
                    simpa [cellsT] using h
                  · exact Hall.out.2.2.1.far (by simp; omega) _
                  · exact Hall.out.2.2.2.far (by simp; omega) _
                  · exact Hb4.out.setCell (by simp; omega) _
                case measure => simp [intOf]; omega
            · have he := Lib.hid (wEK_no hlt hh)
              have hne : (l[n].1 != k) = false := by simp at hh; simp [hh]
              clear hh
              have Hall := Lib.hid (And.intro hv (And.intro ho (And.intro hx (And.intro hy hb))))
              clear hv ho hx hy hb
              go_wp2_with fail
              go_roundw
              case rel => exact ⟨n + 1, A', c', by omega, by go_num, by rw [he.out]; exact Hall.out.1, by rw [he.out]; exact Hall.out.2.1, Hall.out.2.2.1, Hall.out.2.2.2.1, Hall.out.2.2.2.2⟩
              case measure => simp [intOf]; omega
          · have hkk : n = l.length := by omega
            subst hkk
            obtain ⟨y0, y1, y2, y3, g0, g1, g2, g3, yl⟩ := hy.cellsT
            have hns : ¬ w3.heap.size + 1 = w.heap.size + 1 := by omega
            have m1 := hv.ne_blk hy (by decide)
            have Hall := Lib.hid (And.intro hv hb)
            clear hv hb
            go_wp2_with fail
            refine bodyPost_ret (v := .tuple #[.agg #[.int .i64 id, .int .i64 series, .int .i64 made, .slice A' (wEK l k l.length).length c'], .bool true]) (by simp [results, Try.results25, go_sem, yl, y0, y1, y2, y3, hns]) rfl ⟨A', c', ?_, ?_, ?_⟩
            · rw [Hv.out.1, Hv.out.2]; rfl
            · rw [Hv.out.1]
              have hw := ((((Wr.refl (fun q => q = w.heap.size + 1) wr).setCell (p := ⟨w.heap.size + 1, 0, none⟩) (.inl rfl) (.int .i64 id)).setCell (p := ⟨w.heap.size + 1, 1, none⟩) (.inl rfl) (.int .i64 series)).setCell (p := ⟨w.heap.size + 1, 2, none⟩) (.inl rfl) (.int .i64 made)).setCell (p := ⟨w.heap.size + 1, 3, none⟩) (.inl rfl) (.slice A' (wEK l k l.length).length c')
              exact Hall.out.1.wr hw (fun q hq hS => m1 (by
                subst hS
                cases A' with
                | none => simp [Value.ownBlock] at hq
                | some a =>
                  rcases Hall.out.1.2 with ⟨h, _⟩ | ⟨g, cap, cur, h, _, hg, _⟩
                  · simp at h
                  · simp at h
                    obtain ⟨rfl, _⟩ := h
                    simp [Value.ownBlock] at hq
                    exact ⟨0, by rw [hq]⟩))
            · exact ((((Hall.out.2.setCell (Nat.le_succ _) _).setCell (Nat.le_succ _) _).setCell (Nat.le_succ _) _).setCell (Nat.le_succ _) _)
    · have hk00 : k = 0 := by simpa using hk0
      have Hv := Lib.hid (show dropEL id series made l k = [] ∧ (dropEB id series made l k) = false by rw [hk00]; simp [dropEL, dropEB, h1, hasE_zero h1])
      go_enter Try.func25, Try.ntmps25
      go_wp2_with fail
      change Calls Try.prog 52 _ ((w.alloc (.cells (cellsT id series made (.slice A l.length c)) 30)).alloc (.cells (cellsT 0 0 0 (.slice none 0 0)) 30)) _
      generalize ((w.alloc (.cells (cellsT id series made (.slice A l.length c)) 30)).alloc (.cells (cellsT 0 0 0 (.slice none 0 0)) 30)) = W0 at *
      refine (l2Record_any _ _ _ _ _ l _ hl0 hm').mono ?_
      rw [h1]
      rintro e w2 ⟨rfl, hq2⟩
      have hx2 := hb2.below hq2 (by omega)
      have hy2 := hb3.below hq2 (by omega)
      have hl2 := (hl0.below hq2).more hq2.size
      have hB2 := hB.trans (hq2.mono hB.size)
      obtain ⟨x0, x1, x2, x3, f0, f1, f2, f3, xl⟩ := hx2.cellsT
      obtain ⟨y0, y1, y2, y3, g0, g1, g2, g3, yl⟩ := hy2.cellsT
      go_wp2_with fail
      refine bodyPost_ret (v := .tuple #[.agg #[.int .i64 0, .int .i64 0, .int .i64 0, .slice none 0 0], .bool false]) (by simp [results, Try.results25, go_sem, yl, y0, y1, y2, y3]) rfl ⟨none, 0, ?_, ?_, ?_⟩
      · rw [Hv.out.1, Hv.out.2]; rfl
      · rw [Hv.out.1]; exact Vec.nil
      · exact ((((hB2.setCell (Nat.le_succ _) _).setCell (Nat.le_succ _) _).setCell (Nat.le_succ _) _).setCell (Nat.le_succ _) _)

end Go.Proofs.Ytjbklopkginegaa
