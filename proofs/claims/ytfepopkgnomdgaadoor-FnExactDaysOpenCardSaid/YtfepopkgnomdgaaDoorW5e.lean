/- Contracts: l5Find, l5With, inState. -/
import Derived.Test.YtfepopkgnomdgaaDoorW5d
import Derived.Test.YtfepopkgnomdgaaDoorD5s
import Derived.Test.YtfepopkgnomdgaaDoorVs
import Derived.Test.YtfepopkgnomdgaaDoorSl
namespace Go.Proofs.YtfepopkgnomdgaaDoor
set_option linter.unusedVariables false
set_option linter.unusedSimpArgs false
open Go.RowKit
attribute [local go_sem] Aft.cell

set_option maxHeartbeats 2000000 in
theorem l5Find_any (A : Option Addr) (c : Nat) (l : List FileD) (id st : Int) (w : World) (hl : Ls w w.heap.size encFile 7 A l) (hm : l.length ≤ 1048576) (hnm : ∀ f ∈ l, f.title.size ≤ 1048576) (hcap : l.length ≤ c) :
    Calls Tryd.prog 48 #[.slice A l.length c, .int .i64 id, .int .i64 st] w fun e w' => e = .returned (.int .i64 (findXI l id st)) ∧ Below w.heap.size w w' := by
  have hlen : (l.length : Int) ≤ 1048576 := by omega
  go_enter Tryd.func48, Tryd.ntmps48
  go_wp2_with fail
  go_loopw [7] (fun i wr => ∃ j : Nat, j ≤ l.length ∧ i = .int .i64 j ∧ Below w.heap.size w wr ∧ Hid (∀ q (hq : q < l.length), q < j → ((l[q].id == id) && (decide (st < 0) || (l[q].state == st))) = false)) (fun i _ => l.length - (intOf i).toNat)
  case atStart => exact ⟨0, Nat.zero_le _, rfl, Below.refl _ _, fun q _ hq => absurd hq (Nat.not_lt_zero _)⟩
  case round =>
    obtain ⟨j, hj, rfl, hb, hall⟩ := hrel
    by_cases hjl : j < l.length
    · have hG := l5Good_any A c l wr ((hl.below hb).more hb.size) hm hnm hcap
      cases hg : filesB l
      · rw [hg] at hG
        have Hv := Lib.hid (findXI_bad hg id st)
        clear hg hnm
        go_wp2_with fail
        refine hG.mono ?_
        rintro e w1 ⟨rfl, hb1⟩
        go_wp2_with fail
        go_ret
        exact ⟨ret_int Hv.out.symm, blw hb hb1⟩
      · rw [hg] at hG
        have Hg := Lib.hid hg
        have Hnm := Lib.hid hnm
        clear hg hnm
        obtain ⟨b, off, rfl, hbb, hc0, hc1, hc2, hc3, hc4, hc5, hc6⟩ := (hl.below hb).at_File hjl
        have hsz := hb.size
        rcases (show (((l[j].id == id) && (decide (st < 0) || (l[j].state == st))) = false ∧ (l[j].id == id) = false) ∨ (((l[j].id == id) && (decide (st < 0) || (l[j].state == st))) = false ∧ (l[j].id == id) = true ∧ decide (st < 0) = false ∧ (l[j].state == st) = false) ∨
            (((l[j].id == id) && (decide (st < 0) || (l[j].state == st))) = true ∧ (l[j].id == id) = true ∧ decide (st < 0) = true) ∨ (((l[j].id == id) && (decide (st < 0) || (l[j].state == st))) = true ∧ (l[j].id == id) = true ∧ decide (st < 0) = false ∧ (l[j].state == st) = true) by
          cases (l[j].id == id) <;> cases decide (st < 0) <;> cases (l[j].state == st) <;> simp) with ⟨hx, e1⟩ | ⟨hx, e1, e2, e3⟩ | ⟨hx, e1, e2⟩ | ⟨hx, e1, e2, e3⟩
        iterate 2
          · have Hx := Lib.hid hx
            clear hx
            go_wp2_with fail
            refine hG.mono ?_
            rintro e w1 ⟨rfl, hb1⟩
            have hq : b < wr.heap.size := by omega
            have hq1 : b < w1.heap.size := by have := hb1.size; omega
            replace hc0 : w1.cell? ⟨b, off + j * 7, none⟩ = some (.int .i64 l[j].id) := (hb1.cell (p := ⟨b, off + j * 7, none⟩) hq).trans hc0
            replace hc5 : w1.cell? ⟨b, off + j * 7 + 5, none⟩ = some (.int .i64 l[j].state) := (hb1.cell (p := ⟨b, off + j * 7 + 5, none⟩) hq).trans hc5
            go_wp2_with fail
            go_roundw
            case rel => exact ⟨j + 1, by omega, by go_num, blw hb hb1, fun q hq hqj => by rcases Nat.lt_succ_iff_lt_or_eq.1 hqj with h | rfl; exact hall.out q hq h; exact Hx.out⟩
            case measure => simp [intOf]; omega
        iterate 2
          · have Hv := Lib.hid (findXI_at (id := id) (st := st) Hg.out hjl (by simpa using e1) (by simp_all))
            clear hx
            go_wp2_with fail
            refine hG.mono ?_
            rintro e w1 ⟨rfl, hb1⟩
            have hq : b < wr.heap.size := by omega
            have hq1 : b < w1.heap.size := by have := hb1.size; omega
            replace hc0 : w1.cell? ⟨b, off + j * 7, none⟩ = some (.int .i64 l[j].id) := (hb1.cell (p := ⟨b, off + j * 7, none⟩) hq).trans hc0
            replace hc5 : w1.cell? ⟨b, off + j * 7 + 5, none⟩ = some (.int .i64 l[j].state) := (hb1.cell (p := ⟨b, off + j * 7 + 5, none⟩) hq).trans hc5
            go_wp2_with fail
            go_ret
            exact ⟨ret_int Hv.out.symm, blw hb hb1⟩
    · have hkk : j = l.length := by omega
      subst hkk
      have Hv := Lib.hid (findXI_none hall.out)
      go_wp2_with fail
      go_ret
      exact ⟨ret_int Hv.out.symm, hb⟩

theorem files_name {l : List FileD} {i : Nat} {x : FileD} (hnm : ∀ f ∈ l, f.title.size ≤ 1048576) (hx : x.title.size ≤ 1048576) : ∀ f ∈ l.set i x, f.title.size ≤ 1048576 := fun f hf => by
  rcases List.mem_or_eq_of_mem_set hf with h | rfl
  · exact hnm f h
  · exact hx

theorem l5Good_n (A : Option Addr) (c n : Nat) (l : List FileD) (w : World) (hn : l.length = n) (hl : Ls w w.heap.size encFile 7 A l) (hm : l.length ≤ 1048576) (hnm : ∀ f ∈ l, f.title.size ≤ 1048576) (hcap : l.length ≤ c) :
    Calls Tryd.prog 42 #[.slice A n c] w fun e w' => e = .returned (.bool (filesB l)) ∧ Below w.heap.size w w' := by
  subst hn
  exact l5Good_any A c l w hl hm hnm hcap
theorem AreFiles_n (A : Option Addr) (c n : Nat) (l : List FileD) (w : World) (hn : l.length = n) (hl : Ls w w.heap.size encFile 7 A l) (hm : l.length ≤ 1048576) (hnm : ∀ f ∈ l, f.title.size ≤ 1048576) (hcap : l.length ≤ c) :
    Calls Tryd.prog 15 #[.slice A n c] w fun e w' => e = .returned (.bool (filesB l)) ∧ Below w.heap.size w w' := by
  subst hn
  exact AreFiles_any A c l w hl hm hnm hcap

/-- A whole file written. -/
theorem Std.putFile {l : List FileD} {f : Nat → Value} (h : Std encFile 7 l f) (i : Nat) (x : FileD) : Std encFile 7 (l.set i x) (upd (upd (upd (upd (upd (upd (upd f (i * 7) (.int .i64 x.id)) (i * 7 + 1) (.int .i64 x.series)) (i * 7 + 2) (.string x.title)) (i * 7 + 3) (.int .i64 x.opened)) (i * 7 + 4) (.int .i64 x.closed)) (i * 7 + 5) (.int .i64 x.state)) (i * 7 + 6) (.int .i64 x.pages)) :=
  h.set encFile_len i x (fun j u hu => by
    have hj : j < 7 := by have hq := (List.getElem?_eq_some_iff.1 hu).1; rwa [encFile_len] at hq
    match j, hj, hu with
    | 0, _, hu => simp [encFile] at hu; subst hu; simp [upd]
    | 1, _, hu => simp [encFile] at hu; subst hu; simp [upd]
    | 2, _, hu => simp [encFile] at hu; subst hu; simp [upd]
    | 3, _, hu => simp [encFile] at hu; subst hu; simp [upd]
    | 4, _, hu => simp [encFile] at hu; subst hu; simp [upd]
    | 5, _, hu => simp [encFile] at hu; subst hu; simp [upd]
    | 6, _, hu => simp [encFile] at hu; subst hu; simp [upd]) (fun m hm => by rw [upd_other (by omega), upd_other (by omega), upd_other (by omega), upd_other (by omega), upd_other (by omega), upd_other (by omega), upd_other (by omega)])

set_option maxHeartbeats 4000000 in
theorem l5With_any (A : Option Addr) (c : Nat) (l : List FileD) (i : Nat) (x : FileD) (w : World) (hl : Ls w w.heap.size encFile 7 A l) (hm : l.length ≤ 1048576) (hnm : ∀ f ∈ l, f.title.size ≤ 1048576) (hcap : l.length ≤ c) (hi : i < l.length) (hxn : x.title.size ≤ 1048576) :
    Calls Tryd.prog 53 #[.slice A l.length c, .int .i64 (i : Int), .agg #[.int .i64 x.id, .int .i64 x.series, .string x.title, .int .i64 x.opened, .int .i64 x.closed, .int .i64 x.state, .int .i64 x.pages]] w (RetSB w 55 encFile 7 (keepL (filesB (l.set i x)) (l.set i x)) (filesB (l.set i x))) := by
  have hlen : (l.length : Int) ≤ 1048576 := by omega
  have hF1 : ([] : List FileD).length + l.length ≤ maxLen := by unfold maxLen; simp; omega
  have hF2 : (([] : List FileD).length + l.length) * 64 ≤ 140737488355328 := by simp; omega
  have hnx := Lib.hid (files_name (i := i) hnm hxn)
  clear hnm
  have hbx := blw_alloc (Below.refl w.heap.size w) (.cells #[.int .i64 x.id, .int .i64 x.series, .string x.title, .int .i64 x.opened, .int .i64 x.closed, .int .i64 x.state, .int .i64 x.pages] 55)
  have hbb := blw_alloc hbx (.cells #[] 55)
  have hmk : Vec ((w.alloc (.cells #[.int .i64 x.id, .int .i64 x.series, .string x.title, .int .i64 x.opened, .int .i64 x.closed, .int .i64 x.state, .int .i64 x.pages] 55)).alloc (.cells #[] 55)) w.heap.size 55 encFile 7 (.slice (some ⟨w.heap.size + 1, 0, none⟩) 0 0) ([] : List FileD) := by
    have h := Vec.empty (en := encFile) (sz := 7) (w.alloc (.cells #[.int .i64 x.id, .int .i64 x.series, .string x.title, .int .i64 x.opened, .int .i64 x.closed, .int .i64 x.state, .int .i64 x.pages] 55)) w.heap.size 55 hbx.size
    rwa [World.size_alloc] at h
  obtain ⟨y0, y1, y2, y3, y4, y5, y6, yl⟩ := (FileBox.new w x 55).below ((Below.refl _ _).alloc (Nat.le_refl _) (.cells #[] 55))
  have hl2 := (hl.below hbb)
  have hG : ∀ (g c2 : Nat) (W : World) (f : Nat → Value), RowF W g 55 (c2 * 7) f → w.heap.size ≤ g → l.length ≤ c2 → c2 ≤ maxLen → Std encFile 7 l f →
      Hid (Vec ((((((((W.setCell ⟨g, i * 7, none⟩ (.int .i64 x.id)).setCell ⟨g, i * 7 + 1, none⟩ (.int .i64 x.series)).setCell ⟨g, i * 7 + 2, none⟩ (.string x.title)).setCell ⟨g, i * 7 + 3, none⟩ (.int .i64 x.opened)).setCell ⟨g, i * 7 + 4, none⟩ (.int .i64 x.closed)).setCell ⟨g, i * 7 + 5, none⟩ (.int .i64 x.state)).setCell ⟨g, i * 7 + 6, none⟩ (.int .i64 x.pages))) w.heap.size 55 encFile 7 (.slice (some ⟨g, 0, none⟩) (l.set i x).length c2) (l.set i x)) := fun g c2 W f hr hbg hlc hcm hstd =>
    RowF.vec (((((((hr.put _ _).put _ _).put _ _).put _ _).put _ _).put _ _).put _ _) encFile_len hbg (by simpa using hlc) hcm (hstd.putFile i x)
  have hlx : (l.set i x).length = l.length := List.length_set
  cases hq : filesB (l.set i x)

  · have Hq := Lib.hid hq
    have Hk := Lib.hid (show keepL false (l.set i x) = [] from rfl)
    have Hlx := Lib.hid hlx
    clear hlx hq
    go_enter Tryd.func53, Tryd.ntmps53
    go_wp2_with (at_builtin; refine wpList_app rfl (.tmp 9) (.tmp 10) 25 rfl 55 (.agg #[.int .i64 0, .int .i64 0, .string ⟨#[]⟩, .int .i64 0, .int .i64 0, .int .i64 0, .int .i64 0]) 7 64 Tryd.underlying25 (by kernel_rfl) rfl (by omega) encFile_len one_file (some ⟨w.heap.size + 1, 0, none⟩) 0 ([] : List FileD) rfl hmk A c _ l rfl hl2 hF1 hF2 (by simp; omega) ?_; intro A2 c2 w1 hv1 hw1; replace hv1 : Vec w1 w.heap.size 55 encFile 7 (.slice A2 l.length c2) l := hv1; obtain ⟨g, rfl⟩ := hv1.some (by omega); obtain ⟨f, hr, hbg, hlc, hcm, hstd⟩ := hv1.rowf encFile_len; have HG := hG g c2 w1 f hr hbg hlc hcm hstd; clear hstd; have hsf := hr.frozen; have hs0 := hr.cell (i := i * 7) (by omega); have hs1 := hr.cell (i := i * 7 + 1) (by omega); have hs2 := hr.cell (i := i * 7 + 2) (by omega); have hs3 := hr.cell (i := i * 7 + 3) (by omega); have hs4 := hr.cell (i := i * 7 + 4) (by omega); have hs5 := hr.cell (i := i * 7 + 5) (by omega); have hs6 := hr.cell (i := i * 7 + 6) (by omega); replace y0 := (hw1.cell (k := w.heap.size) (o := 0) yl (fun hS => by obtain ⟨q, hq⟩ := hS; simp at hq)).trans y0; replace y1 := (hw1.cell (k := w.heap.size) (o := 1) yl (fun hS => by obtain ⟨q, hq⟩ := hS; simp at hq)).trans y1; replace y2 := (hw1.cell (k := w.heap.size) (o := 2) yl (fun hS => by obtain ⟨q, hq⟩ := hS; simp at hq)).trans y2; replace y3 := (hw1.cell (k := w.heap.size) (o := 3) yl (fun hS => by obtain ⟨q, hq⟩ := hS; simp at hq)).trans y3; replace y4 := (hw1.cell (k := w.heap.size) (o := 4) yl (fun hS => by obtain ⟨q, hq⟩ := hS; simp at hq)).trans y4; replace y5 := (hw1.cell (k := w.heap.size) (o := 5) yl (fun hS => by obtain ⟨q, hq⟩ := hS; simp at hq)).trans y5; replace y6 := (hw1.cell (k := w.heap.size) (o := 6) yl (fun hS => by obtain ⟨q, hq⟩ := hS; simp at hq)).trans y6; have hB1 := hbb.trans (hw1.below hbb.size (fun q hq => by obtain ⟨o, ho⟩ := hq; simp at ho; omega)))
    refine (l5Good_n (some ⟨g, 0, none⟩) c2 _ (l.set i x) _ Hlx.out (HG.out.ls encFile_len) (by rw [Hlx.out]; omega) hnx.out (by rw [Hlx.out]; exact hlc)).mono ?_
    rw [Hq.out]
    rintro e w2 ⟨rfl, hb2⟩
    have hB2 : Below w.heap.size w _ := (((((((hB1.setCell (p := ⟨g, i * 7, none⟩) hbg (.int .i64 x.id)).setCell (p := ⟨g, i * 7 + 1, none⟩) hbg (.int .i64 x.series)).setCell (p := ⟨g, i * 7 + 2, none⟩) hbg (.string x.title)).setCell (p := ⟨g, i * 7 + 3, none⟩) hbg (.int .i64 x.opened)).setCell (p := ⟨g, i * 7 + 4, none⟩) hbg (.int .i64 x.closed)).setCell (p := ⟨g, i * 7 + 5, none⟩) hbg (.int .i64 x.state)).setCell (p := ⟨g, i * 7 + 6, none⟩) hbg (.int .i64 x.pages))
    have hB3 := blw hB2 hb2
    have HV := (HG.out.on hb2)
    go_wp2_with fail
    go_ret2
    exact ⟨_, 0, by rw [Hk.out]; rfl, by rw [Hk.out]; exact Vec.empty _ _ _ hB3.size, blw_alloc hB3 _⟩

  · have Hq := Lib.hid hq
    have Hk := Lib.hid (show keepL true (l.set i x) = l.set i x from rfl)
    have Hlx := Lib.hid hlx
    clear hlx hq
    go_enter Tryd.func53, Tryd.ntmps53
    go_wp2_with (at_builtin; refine wpList_app rfl (.tmp 9) (.tmp 10) 25 rfl 55 (.agg #[.int .i64 0, .int .i64 0, .string ⟨#[]⟩, .int .i64 0, .int .i64 0, .int .i64 0, .int .i64 0]) 7 64 Tryd.underlying25 (by kernel_rfl) rfl (by omega) encFile_len one_file (some ⟨w.heap.size + 1, 0, none⟩) 0 ([] : List FileD) rfl hmk A c _ l rfl hl2 hF1 hF2 (by simp; omega) ?_; intro A2 c2 w1 hv1 hw1; replace hv1 : Vec w1 w.heap.size 55 encFile 7 (.slice A2 l.length c2) l := hv1; obtain ⟨g, rfl⟩ := hv1.some (by omega); obtain ⟨f, hr, hbg, hlc, hcm, hstd⟩ := hv1.rowf encFile_len; have HG := hG g c2 w1 f hr hbg hlc hcm hstd; clear hstd; have hsf := hr.frozen; have hs0 := hr.cell (i := i * 7) (by omega); have hs1 := hr.cell (i := i * 7 + 1) (by omega); have hs2 := hr.cell (i := i * 7 + 2) (by omega); have hs3 := hr.cell (i := i * 7 + 3) (by omega); have hs4 := hr.cell (i := i * 7 + 4) (by omega); have hs5 := hr.cell (i := i * 7 + 5) (by omega); have hs6 := hr.cell (i := i * 7 + 6) (by omega); replace y0 := (hw1.cell (k := w.heap.size) (o := 0) yl (fun hS => by obtain ⟨q, hq⟩ := hS; simp at hq)).trans y0; replace y1 := (hw1.cell (k := w.heap.size) (o := 1) yl (fun hS => by obtain ⟨q, hq⟩ := hS; simp at hq)).trans y1; replace y2 := (hw1.cell (k := w.heap.size) (o := 2) yl (fun hS => by obtain ⟨q, hq⟩ := hS; simp at hq)).trans y2; replace y3 := (hw1.cell (k := w.heap.size) (o := 3) yl (fun hS => by obtain ⟨q, hq⟩ := hS; simp at hq)).trans y3; replace y4 := (hw1.cell (k := w.heap.size) (o := 4) yl (fun hS => by obtain ⟨q, hq⟩ := hS; simp at hq)).trans y4; replace y5 := (hw1.cell (k := w.heap.size) (o := 5) yl (fun hS => by obtain ⟨q, hq⟩ := hS; simp at hq)).trans y5; replace y6 := (hw1.cell (k := w.heap.size) (o := 6) yl (fun hS => by obtain ⟨q, hq⟩ := hS; simp at hq)).trans y6; have hB1 := hbb.trans (hw1.below hbb.size (fun q hq => by obtain ⟨o, ho⟩ := hq; simp at ho; omega)))
    refine (l5Good_n (some ⟨g, 0, none⟩) c2 _ (l.set i x) _ Hlx.out (HG.out.ls encFile_len) (by rw [Hlx.out]; omega) hnx.out (by rw [Hlx.out]; exact hlc)).mono ?_
    rw [Hq.out]
    rintro e w2 ⟨rfl, hb2⟩
    have hB2 : Below w.heap.size w _ := (((((((hB1.setCell (p := ⟨g, i * 7, none⟩) hbg (.int .i64 x.id)).setCell (p := ⟨g, i * 7 + 1, none⟩) hbg (.int .i64 x.series)).setCell (p := ⟨g, i * 7 + 2, none⟩) hbg (.string x.title)).setCell (p := ⟨g, i * 7 + 3, none⟩) hbg (.int .i64 x.opened)).setCell (p := ⟨g, i * 7 + 4, none⟩) hbg (.int .i64 x.closed)).setCell (p := ⟨g, i * 7 + 5, none⟩) hbg (.int .i64 x.state)).setCell (p := ⟨g, i * 7 + 6, none⟩) hbg (.int .i64 x.pages))
    have hB3 := blw hB2 hb2
    have HV := (HG.out.on hb2)
    go_wp2_with fail
    go_ret2
    exact ⟨some ⟨g, 0, none⟩, c2, by rw [Hk.out, Hlx.out]; rfl, by rw [Hk.out]; exact HV, hB3⟩


end Go.Proofs.YtfepopkgnomdgaaDoor
