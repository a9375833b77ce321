/- Contracts: SeriesPages of the reference. -/
import Derived.Test.YtlhihdcdbclcbaaDoorRr
import Derived.Test.YtlhihdcdbclcbaaDoorW5d
namespace Go.Proofs.YtlhihdcdbclcbaaDoor
set_option linter.unusedVariables false
set_option linter.unusedSimpArgs false
open Go.RowKit
attribute [local go_sem] Aft.cell

theorem cnt_yes {l : List FileD} {s : Int} {j : Nat} (h : j < l.length) (hs : (l[j].series == s) = true) : cntS (l.take (j + 1)) s = cntS (l.take j) s + 1 ∧ sumS (l.take (j + 1)) s = sumS (l.take j) s + l[j].pages := by
  have e := beq_iff_eq.1 hs
  rw [List.take_succ_eq_append_getElem h, ← e]
  exact ⟨cntS_yes _ _, sumS_yes _ _⟩
theorem cnt_no {l : List FileD} {s : Int} {j : Nat} (h : j < l.length) (hs : (l[j].series == s) = false) : cntS (l.take (j + 1)) s = cntS (l.take j) s ∧ sumS (l.take (j + 1)) s = sumS (l.take j) s := by
  have e : l[j].series ≠ s := by simpa using hs
  rw [List.take_succ_eq_append_getElem h]
  unfold cntS sumS
  rw [inSer_snoc_no e]
  exact ⟨rfl, rfl⟩
theorem cnt_zero (s : Int) (l : List FileD) : cntS (l.take 0) s = 0 ∧ sumS (l.take 0) s = 0 := ⟨rfl, rfl⟩
theorem ser_len {R : List SRow} {l : List FileD} {k : Nat} (h : R.map (·.t) = serR l 0 k) : R.length ≤ k := by
  have h1 := congrArg List.length h
  rw [List.length_map] at h1
  rw [h1]
  unfold serR
  exact Nat.le_trans (List.length_filterMap_le _ _) (by simp)

set_option maxRecDepth 100000 in
set_option maxHeartbeats 4000000 in
theorem c_spec_SeriesPages (A : Option Addr) (c : Nat) (l : List FileD) (w : World) (hl : Ls w w.heap.size encFile 7 A l) (hm : l.length ≤ 1048576) (hnm : ∀ f ∈ l, f.title.size ≤ 1048576) (hcap : l.length ≤ c) :
    Calls Tryd.prog 7 #[.slice A l.length c] w (RetR w (serL l) (filesB l)) := by
  have hB0 := blw_alloc (Below.refl w.heap.size w) (.cells #[] 37)
  have hv0 : Vec (w.alloc (.cells #[] 37)) w.heap.size 37 encSR 1 (.slice (some ⟨w.heap.size, 0, none⟩) 0 0) ([] : List SRow) := Vec.empty _ _ _ (Nat.le_refl _)
  have hA := l5Good_any A c l (w.alloc (.cells #[] 37)) ((hl.below hB0).more hB0.size) hm hnm hcap
  cases hok : filesB l
  · have Hv := Lib.hid (show serL l = [] by simp [serL, hok])
    rw [hok] at hA
    clear hok
    go_enter Tryd.func7, Tryd.ntmps7
    go_wp2_with fail
    refine hA.mono ?_
    rintro e w1 ⟨rfl, q1⟩
    go_wp2_with fail
    go_ret2
    exact ⟨some ⟨w.heap.size, 0, none⟩, 0, [], rfl, hv0.on q1, RowsAt.nil, by rw [Hv.out]; rfl, blw hB0 q1⟩
  · have Hv := Lib.hid (show serL l = serP l by simp [serL, hok])
    rw [hok] at hA
    have Hok := Lib.hid hok
    have h10 := (files_all hok).1
    clear hok
    have hlen : (l.length : Int) ≤ 10 := by omega
    go_enter Tryd.func7, Tryd.ntmps7
    go_wp2_with fail
    refine hA.mono ?_
    rintro e w1 ⟨rfl, q1⟩
    have hB1 := blw hB0 q1
    have hv1 := hv0.on q1
    clear hA hB0 hv0 q1
    go_wp2_with fail
    go_loopw [4, 5] (fun v i wr => ∃ (k : Nat) (sr : Int) (A9 : Option Addr) (c9 : Nat) (R : List SRow), k ≤ 99 ∧ Hid (sr = (k : Int) + 1) ∧ 1 ≤ sr ∧ sr ≤ 100 ∧ i = .int .i64 sr ∧ v = .slice A9 R.length c9 ∧ Below w.heap.size w wr ∧ Vec wr w.heap.size 37 encSR 1 (.slice A9 R.length c9) R ∧ RowsAt wr w.heap.size R ∧ Hid (R.map (·.t) = serR l 0 k)) (fun _ i _ => 100 - (intOf i).toNat)
    case atStart => exact ⟨0, 1, _, 0, [], by omega, rfl, by omega, by omega, rfl, rfl, hB1, hv1, RowsAt.nil, rfl⟩
    case round =>
      clear hB1 hv1
      obtain ⟨k, sr, A9, c9, R, hk, hsr, hs1, hs2, rfl, rfl, hb, hv, hR, hM⟩ := hrel
      have hR99 := ser_len hM.out
      by_cases hlt : sr ≤ 99
      · have hl1 := hl.below hb
        go_wp2_with fail
        go_loop [6, 7, 8] (fun n p i => ∃ (j : Nat) (n0 p0 : Int), j ≤ l.length ∧ i = .int .i64 j ∧ n = .int .i64 n0 ∧ p = .int .i64 p0 ∧ 0 ≤ n0 ∧ n0 ≤ 10 ∧ 0 ≤ p0 ∧ p0 ≤ 50000 ∧ Hid (n0 = cntS (l.take j) sr ∧ p0 = sumS (l.take j) sr)) (fun _ _ i => l.length - (intOf i).toNat)
        case atStart => exact ⟨0, 0, 0, Nat.zero_le _, rfl, rfl, rfl, by omega, by omega, by omega, by omega, (cnt_zero sr l).1.symm, (cnt_zero sr l).2.symm⟩
        case round =>
          obtain ⟨j, n0, p0, hj, rfl, rfl, rfl, hn1, hn2, hp1, hp2, hI⟩ := hrel
          by_cases hjl : j < l.length
          · obtain ⟨b, off, rfl, hbb, c0, c1', c2', c3', c4', c5', c6⟩ := hl1.at_File hjl
            have hi0 : (0 : Int) ≤ (j : Int) := by omega
            have hi1 : (j : Int) < (l.length : Int) := by omega
            obtain ⟨_, _, hg1, hg2⟩ := ser_bd Hok.out hjl
            have hbd := sumS_bd Hok.out (j + 1) sr
            cases hx : (l[j].series == sr)
            · have Hx := Lib.hid (cnt_no hjl hx)
              clear hbd
              generalize l[j].series = fs at *
              generalize l[j].pages = pg at *
              go_wp2_with fail
              go_round
              case rel => exact ⟨j + 1, n0, p0, by omega, by go_num, rfl, rfl, hn1, hn2, hp1, hp2, by rw [Hx.out.1]; exact hI.out.1, by rw [Hx.out.2]; exact hI.out.2⟩
              case measure => simp [intOf]; omega
            · have hy := cnt_yes hjl hx
              rw [hy.1, hy.2, ← hI.out.1, ← hI.out.2] at hbd
              obtain ⟨hd1, hd2, hd3, hd4⟩ := hbd
              have Hx := Lib.hid hy
              clear hy
              generalize l[j].series = fs at *
              generalize l[j].pages = pg at *
              go_wp2_with fail
              go_round
              case rel => exact ⟨j + 1, n0 + 1, p0 + pg, by omega, by go_num, by go_num, by go_num, hd1, hd2, hd3, hd4, by rw [Hx.out.1, ← hI.out.1], by rw [Hx.out.2, ← hI.out.2]⟩
              case measure => simp [intOf]; omega
          · obtain rfl : j = l.length := by omega
            have HI := Lib.hid (show n0 = cntS l sr ∧ p0 = sumS l sr by have h := hI.out; rwa [List.take_length] at h)
            have hsk := hsr.out
            by_cases hn : 0 < n0
            · have Hro := Lib.hid (show serR l 0 (k + 1) = serR l 0 k ++ [(⟨sr, n0, p0⟩ : Tri)] by
                rw [serR_succ, ← hsr.out]
                unfold rowOf
                rw [← HI.out.1, ← HI.out.2, if_pos hn]
                rfl)
              have q3 : Below wr.heap.size wr ((wr.alloc (.cells #[.int .i64 sr, .int .i64 n0, .int .i64 p0] 3)).alloc (.cells #[.slice (some ⟨wr.heap.size, 0, none⟩) 3 3] 37)) := blw_alloc (blw_alloc (Below.refl _ _) _) _
              have hg3 : Blk ((wr.alloc (.cells #[.int .i64 sr, .int .i64 n0, .int .i64 p0] 3)).alloc (.cells #[.slice (some ⟨wr.heap.size, 0, none⟩) 3 3] 37)) wr.heap.size 3 (triC ⟨sr, n0, p0⟩) := (Blk.new wr 3 (triC ⟨sr, n0, p0⟩)).alloc _
              have hs3 : (wr.alloc (.cells #[.int .i64 sr, .int .i64 n0, .int .i64 p0] 3)).heap.size = wr.heap.size + 1 := by simp
              have hv3 := hv.on q3
              have hR3 := hR.on q3
              have hb3 := blw hb q3
              have hRlt : ∀ r ∈ R, r.g < wr.heap.size := fun r hr => hR.lt hr
              have hF1 : R.length + [(⟨wr.heap.size, ⟨sr, n0, p0⟩⟩ : SRow)].length ≤ maxLen := by unfold maxLen; simp; omega
              have hF2 : (R.length + [(⟨wr.heap.size, ⟨sr, n0, p0⟩⟩ : SRow)].length) * 24 ≤ 140737488355328 := by simp; omega
              clear hsk hI
              go_wp2_with (at_builtin; refine wpList_app rfl (.tmp 42) (.tmp 47) 24 rfl 37 (.slice none 0 0) 1 24 Tryd.underlying24 (by kernel_rfl) rfl (by omega) encSR_len one_sr A9 c9 R rfl hv3 (some ⟨wr.heap.size + 1, 0, none⟩) 1 (wr.heap.size + 1 + 1) [(⟨wr.heap.size, ⟨sr, n0, p0⟩⟩ : SRow)] rfl (Ls.one_at hs3 rfl) hF1 hF2 hb3.size ?_; intro A2 c2 w4 hv4 hw4)
              go_roundw
              case rel =>
                have hR4 := hR3.wr_ne hw4 (fun r hr h => hv3.ne_of (hR3.row r hr).2 (by decide) h)
                have hg4 := hg3.wr hw4 (fun h => hv3.ne_of hg3 (by decide) h)
                refine ⟨k + 1, sr + 1, A2, c2, R ++ [⟨wr.heap.size, ⟨sr, n0, p0⟩⟩], by have := hsr.out; omega, by have := hsr.out; show _ = _; push_cast; omega, by omega, by omega, by go_num, by simp, hb3.trans (hw4.below hb3.size (fun q hq => (hv3.block hq).1)), hv4, RowsAt.ins (Z := []) (by simpa using hR4) hb.size hg4 (by simpa using fun r hr => Nat.ne_of_lt (hRlt r hr)), ?_⟩
                show List.map _ _ = _
                rw [List.map_append, hM.out, Hro.out]
                rfl
              case measure => simp [intOf]; omega
            · have Hro := Lib.hid (show serR l 0 (k + 1) = serR l 0 k by
                rw [serR_succ, ← hsr.out]
                unfold rowOf
                rw [← HI.out.1, ← HI.out.2, if_neg hn]
                simp)
              clear hsk hI
              go_wp2_with fail
              go_roundw
              case rel => exact ⟨k + 1, sr + 1, A9, c9, R, by have := hsr.out; omega, by have := hsr.out; show _ = _; push_cast; omega, by omega, by omega, by go_num, rfl, hb, hv, hR, by rw [Hro.out]; exact hM.out⟩
              case measure => simp [intOf]; omega
      · have Hm := Lib.hid (show R.map (·.t) = serL l by
          have := hsr.out
          obtain rfl : k = 99 := by omega
          rw [Hv.out, hM.out]
          rfl)
        go_wp2_with fail
        go_ret2
        exact ⟨A9, c9, R, rfl, hv, hR, Hm.out, hb⟩

end Go.Proofs.YtlhihdcdbclcbaaDoor
