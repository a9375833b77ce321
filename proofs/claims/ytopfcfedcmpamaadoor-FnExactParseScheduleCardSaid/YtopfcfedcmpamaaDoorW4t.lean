/- Contracts: the text of a schedule. -/
import Derived.Test.YtopfcfedcmpamaaDoorW4b
import Derived.Test.YtopfcfedcmpamaaDoorD4t
import Derived.Test.YtopfcfedcmpamaaDoorHStr
import Derived.Test.YtopfcfedcmpamaaDoorSB
import Derived.Deep.RegionHeld3
import Derived.Test.YtopfcfedcmpamaaDoorSg
namespace Go.Proofs.YtopfcfedcmpamaaDoor
set_option linter.unusedVariables false
set_option linter.unusedSimpArgs false
open Go.RowKit Go.Shelf
attribute [local go_sem] Aft.cell

theorem keep4 {w W W' : World} {b : Nat} {v0 v1 v2 v3 : Value} (hb : Below W.heap.size W W')
    (h : Below w.heap.size w W ∧ W.cell? ⟨b, 0, none⟩ = some v0 ∧ W.cell? ⟨b, 1, none⟩ = some v1 ∧ W.cell? ⟨b, 2, none⟩ = some v2 ∧ W.cell? ⟨b, 3, none⟩ = some v3) :
    Below w.heap.size w W' ∧ W'.cell? ⟨b, 0, none⟩ = some v0 ∧ W'.cell? ⟨b, 1, none⟩ = some v1 ∧ W'.cell? ⟨b, 2, none⟩ = some v2 ∧ W'.cell? ⟨b, 3, none⟩ = some v3 :=
  ⟨blw h.1 hb, (hb.cell (cell_lt h.2.1)).trans h.2.1, (hb.cell (cell_lt h.2.2.1)).trans h.2.2.1, (hb.cell (cell_lt h.2.2.2.1)).trans h.2.2.2.1, (hb.cell (cell_lt h.2.2.2.2)).trans h.2.2.2.2⟩
theorem keep4w {w W W' : World} {b : Nat} {v0 v1 v2 v3 : Value} {S : Nat → Prop} (hw : Wr S W W') (hs : ∀ q, S q → w.heap.size ≤ q) (hn : ¬ S b)
    (h : Below w.heap.size w W ∧ W.cell? ⟨b, 0, none⟩ = some v0 ∧ W.cell? ⟨b, 1, none⟩ = some v1 ∧ W.cell? ⟨b, 2, none⟩ = some v2 ∧ W.cell? ⟨b, 3, none⟩ = some v3) :
    Below w.heap.size w W' ∧ W'.cell? ⟨b, 0, none⟩ = some v0 ∧ W'.cell? ⟨b, 1, none⟩ = some v1 ∧ W'.cell? ⟨b, 2, none⟩ = some v2 ∧ W'.cell? ⟨b, 3, none⟩ = some v3 :=
  ⟨h.1.trans (hw.below h.1.size hs), (hw.cell (cell_lt h.2.1) hn).trans h.2.1, (hw.cell (cell_lt h.2.2.1) hn).trans h.2.2.1, (hw.cell (cell_lt h.2.2.2.1) hn).trans h.2.2.2.1, (hw.cell (cell_lt h.2.2.2.2) hn).trans h.2.2.2.2⟩

theorem Tryd.Builder_Extra_156 : Builder.Extra Tryd.prog Tryd.lays156_ren where
  sizeBuilder := by kernel_rfl
  liesBuilder := by kernel_rfl
  t5 := Tryd.underlying5
  a5 := Tryd.isAgg5
  z5 := Tryd.sizeOf5
  v5 := Tryd.zeroValue5
  infoByte := by kernel_rfl
  cellsByte := by kernel_rfl
  sizeByte := by kernel_rfl
  neB5 := by decide

set_option maxHeartbeats 1000000 in
set_option maxRecDepth 100000 in
theorem scheduleText_any (A : Option Addr) (c : Nat) (l : List RuleD) (w : World) (hl : Ls w w.heap.size encRule 4 A l) (hs : schedB l = true) (ht : Tab w) :
    Calls Tryd.prog 38 #[.slice A l.length c] w fun e w' => e = .returned (.string (schT l)) ∧ Below w.heap.size w w' := by
  obtain ⟨hl8, hbd⟩ := sched_bd hs
  have hlen : (l.length : Int) ≤ 8 := by omega
  have Hbd := Lib.hid hbd
  have Hrs := Lib.hid (sched_rulT hs)
  clear hbd hs
  have hsp1 : spB.size = 1 := rfl
  go_enter Tryd.func38, Tryd.ntmps38
  go_wp2_with fail
  go_loopw [3, 8] (fun v i wr => ∃ (k : Nat) (A' : Option Addr) (c' : Nat), k ≤ l.length ∧ i = .int .i64 k ∧ v = .slice A' (wrdK l k).length c' ∧ Vec wr w.heap.size 9 encStr 1 (.slice A' (wrdK l k).length c') (wrdK l k) ∧ Below w.heap.size w wr) (fun _ i _ => l.length - (intOf i).toNat)
  case atStart => exact ⟨0, none, 0, Nat.zero_le _, rfl, by rw [wrdK_zero]; rfl, by rw [wrdK_zero]; exact Vec.nil, Below.refl _ _⟩
  case round =>
    obtain ⟨k, A', c', hk, rfl, rfl, hv, hb⟩ := hrel
    have hkl := wrdK_len hk
    have hsz := hb.size
    by_cases hlt : k < l.length
    · obtain ⟨b, off, rfl, hbb, hc0, hc1, hc2, hc3⟩ := (hl.below hb).at_Rule hlt
      obtain ⟨⟨e1, e2⟩, ⟨e3, e4⟩, ⟨e5, e6⟩, ⟨e7, e8⟩⟩ := Hbd.out k hlt
      have z1 := numB_len l[k].s (by omega) (by omega)
      have z2 := numB_len l[k].e (by omega) (by omega)
      have z3 := numB_len l[k].d (by omega) (by omega)
      have hact := actT_cut e7 e8
      have Hs := Lib.hid (wrdK_succ hlt)
      have hq : b < wr.heap.size := by omega
      have hq2 : b < wr.heap.size + 1 := by omega
      have ht2 := tab_below (tab_below ht hb) (blw_alloc (Below.refl wr.heap.size wr) (.cells #[.int .i64 l[k].s, .int .i64 l[k].e, .int .i64 l[k].d, .int .i64 l[k].a] 58))
      have hF1 : (wrdK l k).length + [rulT l[k]].length ≤ maxLen := by unfold maxLen; simp; omega
      have hF2 : ((wrdK l k).length + [rulT l[k]].length) * 16 ≤ 140737488355328 := by simp; omega
      have q0 : (numB l[k].s).size + (ByteArray.mk #[46]).size ≤ 9223372036854775807 := by simp only [ByteArray.size_append, litR1, litR2, litR3, actT_size, hsp1]; omega
      have q1 : (numB l[k].s ++ ByteArray.mk #[46]).size + (numB l[k].e).size ≤ 9223372036854775807 := by simp only [ByteArray.size_append, litR1, litR2, litR3, actT_size, hsp1]; omega
      have q2 : (numB l[k].s ++ ByteArray.mk #[46] ++ numB l[k].e).size + (ByteArray.mk #[43]).size ≤ 9223372036854775807 := by simp only [ByteArray.size_append, litR1, litR2, litR3, actT_size, hsp1]; omega
      have q3 : (numB l[k].s ++ ByteArray.mk #[46] ++ numB l[k].e ++ ByteArray.mk #[43]).size + (numB l[k].d).size ≤ 9223372036854775807 := by simp only [ByteArray.size_append, litR1, litR2, litR3, actT_size, hsp1]; omega
      have q4 : (numB l[k].s ++ ByteArray.mk #[46] ++ numB l[k].e ++ ByteArray.mk #[43] ++ numB l[k].d).size + (actT l[k].a).size ≤ 9223372036854775807 := by simp only [ByteArray.size_append, litR1, litR2, litR3, actT_size, hsp1]; omega
      have hxB : Blk (wr.alloc (.cells #[.int .i64 l[k].s, .int .i64 l[k].e, .int .i64 l[k].d, .int .i64 l[k].a] 58)) wr.heap.size 58 #[.int .i64 l[k].s, .int .i64 l[k].e, .int .i64 l[k].d, .int .i64 l[k].a] := Blk.new _ _ _
      have hvB := hv.alloc (.cells #[.int .i64 l[k].s, .int .i64 l[k].e, .int .i64 l[k].d, .int .i64 l[k].a] 58)
      have hBB := blw_alloc hb (.cells #[.int .i64 l[k].s, .int .i64 l[k].e, .int .i64 l[k].d, .int .i64 l[k].a] 58)
      have Hkl := Lib.hid hkl
      have h80 : (0 : Int) ≤ l[k].a - 1 := by omega
      have h81 : l[k].a - 1 ≤ l[k].a := by omega
      have p00 : ¬ (9223372036854775807 < (numB l[k].s).size + (ByteArray.mk #[46]).size) := by simp only [litR1, litR2, actT_size]; omega
      have p01 : ¬ (9223372036854775807 < (numB l[k].s).size + (ByteArray.mk #[46]).size + (numB l[k].e).size) := by simp only [litR1, litR2, actT_size]; omega
      have p02 : ¬ (9223372036854775807 < (numB l[k].s).size + (ByteArray.mk #[46]).size + (numB l[k].e).size + (ByteArray.mk #[43]).size) := by simp only [litR1, litR2, actT_size]; omega
      have p03 : ¬ (9223372036854775807 < (numB l[k].s).size + (ByteArray.mk #[46]).size + (numB l[k].e).size + (ByteArray.mk #[43]).size + (numB l[k].d).size) := by simp only [litR1, litR2, actT_size]; omega
      have p04 : ¬ (9223372036854775807 < (numB l[k].s).size + (ByteArray.mk #[46]).size + (numB l[k].e).size + (ByteArray.mk #[43]).size + (numB l[k].d).size + (actT l[k].a).size) := by simp only [litR1, litR2, actT_size]; omega
      have p10 : ¬ (9223372036854775807 < (numB l[k].s).size + 1) := by omega
      have p11 : ¬ (9223372036854775807 < (numB l[k].s).size + 1 + (numB l[k].e).size) := by omega
      have p12 : ¬ (9223372036854775807 < (numB l[k].s).size + 1 + (numB l[k].e).size + 1) := by omega
      have p13 : ¬ (9223372036854775807 < (numB l[k].s).size + 1 + (numB l[k].e).size + 1 + (numB l[k].d).size) := by omega
      have p14 : ¬ (9223372036854775807 < (numB l[k].s).size + 1 + (numB l[k].e).size + 1 + (numB l[k].d).size + (actT l[k].a).size) := by rw [actT_size]; omega
      have hact2 : (ByteArray.mk #[107, 116, 100]).extract (l[k].a.toNat - 1) l[k].a.toNat = actT l[k].a := by rw [← hact, show (l[k].a - 1).toNat = l[k].a.toNat - 1 by omega]
      have h82 : IntKind.i64.wrap (l[k].a - 1) = l[k].a - 1 := by rw [IntKind.wrap_i64]; omega
      clear hkl
      go_wp2_with fail
      generalize (wr.alloc (.cells #[.int .i64 l[k].s, .int .i64 l[k].e, .int .i64 l[k].d, .int .i64 l[k].a] 58)) = wB at *
      have hzB : wr.heap.size < wB.heap.size := hxB.lt
      have hneB : ¬ blkOf A' wr.heap.size := fun h => Nat.lt_irrefl _ (hv.block h).2
      go_region_held3 (fun W => Below w.heap.size w W ∧ W.cell? ⟨wr.heap.size, 0, none⟩ = some (.int .i64 l[k].s) ∧ W.cell? ⟨wr.heap.size, 1, none⟩ = some (.int .i64 l[k].e) ∧ W.cell? ⟨wr.heap.size, 2, none⟩ = some (.int .i64 l[k].d) ∧ W.cell? ⟨wr.heap.size, 3, none⟩ = some (.int .i64 l[k].a))
        (first | exact keep4 (Below.refl _ _).drew ⟨hBB, hxB.cell 0, hxB.cell 1, hxB.cell 2, hxB.cell 3⟩ | exact keep4 hdd (by assumption) | exact keep4 ((Below.refl _ _).alloc (Nat.le_refl _) _) (by assumption) | exact keep4w hw2 (fun q hq => (hvB.block hq).1) hneB (by assumption))
        (first | (go_at_call 52; refine (decimal_any _ ⟨by omega, by omega⟩ _ (tab_below ht (And.left ‹Below w.heap.size w _ ∧ _›))).mono ?_; rintro e wd ⟨rfl, hdd⟩; have hvd : Vec wd w.heap.size 9 encStr 1 (.slice A' (wrdK l k).length c') (wrdK l k) := (by first | exact hvB.drew.on hdd | exact hvd.on hdd)) | (refine step_appN (base := w.heap.size) rfl (.tmp 12) (.tmp 33) 41 rfl 9 (.string ⟨#[]⟩) 1 16 Tryd.underlying41 (by kernel_rfl) rfl (by omega) encStr_len one_str A' c' _ (wrdK l k) rfl rfl (hvd.alloc _) _ 1 _ 1 [rulT l[k]] rfl rfl (Ls.one_at rfl rfl) hF1 hF2 (Below.size (And.left ‹Below w.heap.size w _ ∧ _›)) (wrdK l (k + 1)).length (by rw [Hs.out, List.length_append]; rfl) ?_; intro A2 c2 wi hv2 hw2))
      have hBi : Below w.heap.size w wi := (And.left ‹Below w.heap.size w _ ∧ _›)
      go_wp2_with fail
      go_roundw
      case rel => exact ⟨k + 1, A2, c2, by omega, by go_num, rfl, by rw [Hs.out] at hv2 ⊢; exact hv2, hBi⟩
      case measure => simp [intOf]; omega
    · have hkk : k = l.length := by omega
      subst hkk
      by_cases hl0 : l.length = 0
      · have Hj := Lib.hid (Any.strings_Join_none Tryd.lays156 Tryd.Builder_Extra_156 A' c' spB wr)
        have He : schT l = ⟨#[]⟩ := by unfold schT; rw [hl0]; exact schK_zero l
        have He2 := Lib.hid He
        rw [hkl, hl0]
        go_wp2_with fail
        refine Hj.out.mono ?_
        rintro e w2 ⟨rfl, rfl⟩
        go_wp2_with fail
        go_ret
        exact ⟨by rw [He2.out]; rfl, hb⟩
      · obtain ⟨g, rfl⟩ := hv.some (by omega)
        have hcap := hv.capOk
        have hgl := (hv.block ⟨0, rfl⟩).2
        have hL := hv.ls encStr_len
        have hjs := schK_size l Hrs.out l.length (Nat.le_refl _)
        have hJ : (Lib.join ((wrdK l l.length).map (·.data.toList)) spB.data.toList).length ≤ 140737488355328 := by
          have : (Lib.join ((wrdK l l.length).map (·.data.toList)) spB.data.toList).length = (schK l l.length).size := by simp [schK, joinV, ByteArray.size]
          omega
        have hj := Any.strings_Join Tryd.lays156 Tryd.Builder_Extra_156 g 0 c' (wrdK l l.length) spB wr (fun j x hx => by
          obtain ⟨hj, e⟩ := List.getElem?_eq_some_iff.1 hx
          obtain ⟨b', off', he, _, h2⟩ := hL.at_String hj
          cases he
          rw [h2, e]) hgl (by omega) hcap hJ
        rw [hkl] at hj
        have Hj := Lib.hid hj
        have HE : Hid (schT l = ⟨(Lib.join ((wrdK l l.length).map (·.data.toList)) spB.data.toList).toArray⟩) := by unfold Hid schT schK joinV; rfl
        clear hJ hjs hj
        go_wp2_with fail
        refine Hj.out.mono ?_
        rintro e w2 ⟨rfl, hb2⟩
        go_wp2_with fail
        go_ret
        exact ⟨by rw [HE.out]; rfl, blw hb hb2⟩

end Go.Proofs.YtopfcfedcmpamaaDoor
