/- Contracts: CloseFile, ReopenFile, LendFile, AddPages. -/
import Derived.Test.YtfepopkgnomdgaaDoorW5f
namespace Go.Proofs.YtfepopkgnomdgaaDoor
set_option linter.unusedVariables false
set_option linter.unusedSimpArgs false
open Go.RowKit
attribute [local go_sem] Aft.cell

def opB (l : List FileD) (id st : Int) (pre : Bool) (F : FileD → FileD) : Bool := inSt l id st && (pre && filesB (setX l id F))
def opL (l : List FileD) (id st : Int) (pre : Bool) (F : FileD → FileD) : List FileD := keepL (opB l id st pre F) (setX l id F)
theorem opL_le (l : List FileD) (id st : Int) (pre : Bool) (F : FileD → FileD) : (opL l id st pre F).length ≤ l.length := keepL_le (by rw [setX_len]; omega)
theorem opB_no {l : List FileD} {id st : Int} {pre : Bool} (h : inSt l id st = false ∨ pre = false) (F : FileD → FileD) : opB l id st pre F = false ∧ opL l id st pre F = [] := by
  have h1 : opB l id st pre F = false := by
    unfold opB
    rcases h with h | h <;> simp [h]
  exact ⟨h1, by unfold opL; rw [h1]; rfl⟩
theorem opB_yes {l : List FileD} {id st : Int} {pre : Bool} (h1 : inSt l id st = true) (hlt : idxX l id < l.length) (h2 : pre = true) (F : FileD → FileD) :
    opB l id st pre F = filesB (l.set (idxX l id) (F (l[idxX l id]'hlt))) ∧ opL l id st pre F = keepL (filesB (l.set (idxX l id) (F (l[idxX l id]'hlt)))) (l.set (idxX l id) (F (l[idxX l id]'hlt))) := by
  have h3 : opB l id st pre F = filesB (setX l id F) := by unfold opB; rw [h1, h2]; simp
  refine ⟨by rw [h3, setX_eq (inSt_of h1).2.1], ?_⟩
  unfold opL
  rw [h3, setX_eq (inSt_of h1).2.1]
/-- the changed file is valid -/
theorem fClose_ok {l : List FileD} {id : Int} (h : inSt l id 0 = true) (hlt : idxX l id < l.length) (d : Int) :
    filesB (l.set (idxX l id) (fClose d (l[idxX l id]'hlt))) = (inB (l[idxX l id]'hlt).opened 0 20000 && inB d 0 20000 && decide ((l[idxX l id]'hlt).opened ≤ d)) := by
  obtain ⟨h1, h2, h3⟩ := inSt_of h
  rw [filesB_set (x := fClose d (l[idxX l id]'hlt)) h1 hlt rfl rfl rfl]
  have hf := file_of h1 hlt
  simp only [fileB, Bool.and_eq_true] at hf
  obtain ⟨⟨⟨⟨⟨e1, e2⟩, e3⟩, e4⟩, e5⟩, e6⟩ := hf
  unfold fileB fClose
  simp only [e1, e2, e3, e4, e5]
  simp [inB]
theorem fReopen_ok {l : List FileD} {id : Int} (h : inSt l id 1 = true) (hlt : idxX l id < l.length) :
    filesB (l.set (idxX l id) (fReopen (l[idxX l id]'hlt))) = true := by
  obtain ⟨h1, h2, h3⟩ := inSt_of h
  rw [filesB_set (x := fReopen (l[idxX l id]'hlt)) h1 hlt rfl rfl rfl]
  have hf := file_of h1 hlt
  simp only [fileB, Bool.and_eq_true] at hf
  obtain ⟨⟨⟨⟨⟨e1, e2⟩, e3⟩, e4⟩, e5⟩, e6⟩ := hf
  unfold fileB fReopen
  simp only [e1, e2, e3, e4, e5]
  simp
theorem fState_ok {l : List FileD} {id st t : Int} (h : inSt l id st = true) (hlt : idxX l id < l.length) (hs : st = 1 ∨ st = 2) (ht : t = 1 ∨ t = 2) :
    filesB (l.set (idxX l id) (fState t (l[idxX l id]'hlt))) = true := by
  obtain ⟨h1, h2, h3⟩ := inSt_of h
  rw [filesB_set (x := fState t (l[idxX l id]'hlt)) h1 hlt rfl rfl rfl]
  have hf := file_of h1 hlt
  rw [← stAt_eq hlt] at h3
  simp only [fileB, Bool.and_eq_true] at hf
  obtain ⟨⟨⟨⟨⟨e1, e2⟩, e3⟩, e4⟩, e5⟩, e6⟩ := hf
  rw [h3] at e6
  unfold fileB fState
  simp only [e1, e2, e3, e4, e5]
  rcases hs with rfl | rfl <;> rcases ht with rfl | rfl <;> simp [inB] at e6 ⊢ <;> omega
theorem inB_prop {x a b : Int} (h : inB x a b = true) : a ≤ x ∧ x ≤ b := by simp [inB] at h; exact h
def fAddP (p : Int) (f : FileD) : FileD := ⟨f.id, f.series, f.title, f.opened, f.closed, f.state, f.pages + p⟩
def lendA (back : Bool) : Int := if back then 2 else 1
def lendZ (back : Bool) : Int := if back then 1 else 2

def closeB (l : List FileD) (id : Int) (d : Int) : Bool := opB l id 0 (decide (1 ≤ d)) (fClose d)
def closeL (l : List FileD) (id : Int) (d : Int) : List FileD := opL l id 0 (decide (1 ≤ d)) (fClose d)
theorem closeL_le (l : List FileD) (id : Int) (d : Int) : (closeL l id d).length ≤ l.length := opL_le _ _ _ _ _

set_option maxHeartbeats 4000000 in
theorem c_spec_CloseFile (A : Option Addr) (c : Nat) (l : List FileD) (id : Int) (d : Int) (w : World) (hl : Ls w w.heap.size encFile 7 A l) (hm : l.length ≤ 1048576) (hnm : ∀ f ∈ l, f.title.size ≤ 1048576) (hcap : l.length ≤ c) :
    Calls Tryd.prog 19 #[.slice A l.length c, .int .i64 id, .int .i64 d] w (RetSB w 55 encFile 7 (closeL l id d) (closeB l id d)) := by
  have hlen : (l.length : Int) ≤ 1048576 := by omega
  have hF := l5Find_any A c l id 0 w hl hm hnm hcap
  cases h1 : inSt l id 0
  · have Hv := Lib.hid (show closeB l id d = false ∧ closeL l id d = [] from opB_no (.inl h1) _)
    have Hz := Lib.hid (show findXI l id 0 = -1 by rw [findXI_in (by omega), h1]; rfl)
    rw [Hz.out] at hF
    clear h1 hnm
    go_enter Tryd.func19, Tryd.ntmps19
    go_wp2_with fail
    refine hF.mono ?_
    rintro e w1 ⟨rfl, hb1⟩
    clear hF
    go_wp2_with fail
    go_ret2
    exact ⟨_, 0, by rw [Hv.out.1, Hv.out.2]; rfl, by rw [Hv.out.2]; exact Vec.empty _ _ _ hb1.size, blw_alloc hb1 _⟩
  · obtain ⟨q1, q2, q3⟩ := inSt_of h1
    have hlt := hasX_lt q2
    have Hz := Lib.hid (show findXI l id 0 = (idxX l id : Int) by rw [findXI_in (by omega), h1]; rfl)
    rw [Hz.out] at hF
    have Hnm := Lib.hid hnm
    have hfl := file_parts (file_of q1 hlt)
    obtain ⟨f1, f2, f3, f4, f5, f6, f7, f8, f9, f10⟩ := hfl
    have htn : (l[idxX l id]'hlt).title.size ≤ 1048576 := hnm _ (List.getElem_mem hlt)
    clear f5 f10
    cases hp : (decide (1 ≤ d))
    · have Hv := Lib.hid (show closeB l id d = false ∧ closeL l id d = [] from opB_no (.inr hp) _)
      have hp2 : ¬ 1 ≤ d := by simpa using hp
      clear hp hnm h1 q1 q2 q3
      go_enter Tryd.func19, Tryd.ntmps19
      go_wp2_with fail
      refine hF.mono ?_
      rintro e w1 ⟨rfl, hb1⟩
      clear hF
      go_wp2_with fail
      go_ret2
      exact ⟨_, 0, by rw [Hv.out.1, Hv.out.2]; rfl, by rw [Hv.out.2]; exact Vec.empty _ _ _ hb1.size, blw_alloc hb1 _⟩
    · have Hv := Lib.hid (show closeB l id d = _ ∧ closeL l id d = _ from opB_yes h1 hlt hp (fClose d))
      have hp2 : 1 ≤ d := by simpa using hp
      clear hp hnm h1 q1 q2 q3
      go_enter Tryd.func19, Tryd.ntmps19
      go_wp2_with fail
      refine hF.mono ?_
      rintro e w1 ⟨rfl, hb1⟩
      obtain ⟨b, off, rfl, hbb, hc0, hc1, hc2, hc3, hc4, hc5, hc6⟩ := ((hl.below hb1).more hb1.size).at_File hlt
      have hi1 : (idxX l id : Int) < (l.length : Int) := by omega
      clear hF
      go_wp2_with fail
      refine (l5With_any _ _ l (idxX l id) ((fClose d) (l[idxX l id]'hlt)) _ ((hl.below (blw_alloc hb1 _)).more (blw_alloc hb1 _).size) hm Hnm.out hcap hlt htn).mono ?_
      rintro e w2 ⟨A2, c2, rfl, hv2, hb2⟩
      go_wp2_with fail
      go_ret2
      exact ⟨A2, c2, by rw [Hv.out.1, Hv.out.2]; rfl, by rw [Hv.out.2]; exact hv2.mono (blw_alloc hb1 _).size, blw (blw_alloc hb1 _) hb2⟩

set_option maxHeartbeats 4000000 in
theorem c_impl_CloseFile (A : Option Addr) (c : Nat) (l : List FileD) (id : Int) (d : Int) (w : World) (hl : Ls w w.heap.size encFile 7 A l) (hm : l.length ≤ 1048576) (hnm : ∀ f ∈ l, f.title.size ≤ 1048576) (hcap : l.length ≤ c) :
    Calls Tryd.prog 20 #[.slice A l.length c, .int .i64 id, .int .i64 d] w (RetSB w 55 encFile 7 (closeL l id d) (closeB l id d)) := by
  have hlen : (l.length : Int) ≤ 1048576 := by omega
  have hF := inState_any A c l id 0 w hl hm hnm hcap
  cases h1 : inSt l id 0
  · have Hv := Lib.hid (show closeB l id d = false ∧ closeL l id d = [] from opB_no (.inl h1) _)
    rw [h1] at hF
    clear h1 hnm
    go_enter Tryd.func20, Tryd.ntmps20
    go_wp2_with fail
    refine hF.mono ?_
    rintro e w1 ⟨rfl, hb1⟩
    clear hF
    go_wp2_with fail
    go_ret2
    exact ⟨none, 0, by rw [Hv.out.1, Hv.out.2]; rfl, by rw [Hv.out.2]; exact Vec.nil, hb1⟩
  · obtain ⟨q1, q2, q3⟩ := inSt_of h1
    have hlt := hasX_lt q2
    have Hz := Lib.hid (show idxXI l id = (idxX l id : Int) by unfold idxXI; rw [q2]; rfl)
    rw [Hz.out, h1] at hF
    have Hnm := Lib.hid hnm
    have hfl := file_parts (file_of q1 hlt)
    obtain ⟨f1, f2, f3, f4, f5, f6, f7, f8, f9, f10⟩ := hfl
    have htn : (l[idxX l id]'hlt).title.size ≤ 1048576 := hnm _ (List.getElem_mem hlt)
    clear f5 f10
    cases hp : (decide (1 ≤ d))
    · have Hv := Lib.hid (show closeB l id d = false ∧ closeL l id d = [] from opB_no (.inr hp) _)
      have hp2 : ¬ 1 ≤ d := by simpa using hp
      clear hp hnm h1 q1 q2 q3
      go_enter Tryd.func20, Tryd.ntmps20
      go_wp2_with fail
      refine hF.mono ?_
      rintro e w1 ⟨rfl, hb1⟩
      obtain ⟨b, off, rfl, hbb, hc0, hc1, hc2, hc3, hc4, hc5, hc6⟩ := ((hl.below hb1).more hb1.size).at_File hlt
      have hi1 : (idxX l id : Int) < (l.length : Int) := by omega
      clear hF
      go_wp2_with fail
      go_ret2
      exact ⟨none, 0, by rw [Hv.out.1, Hv.out.2]; rfl, by rw [Hv.out.2]; exact Vec.nil, hb1⟩
    · have Hv := Lib.hid (show closeB l id d = _ ∧ closeL l id d = _ from opB_yes h1 hlt hp (fClose d))
      have hp2 : 1 ≤ d := by simpa using hp
      have hfc := fClose_ok h1 hlt d
      have hA := areDays_any (l[idxX l id]'hlt).opened d
      cases hk : (inB (l[idxX l id]'hlt).opened 0 20000 && inB d 0 20000 && decide ((l[idxX l id]'hlt).opened ≤ d))
      · rw [hk] at hfc hA
        have Hk := Lib.hid hfc
        clear hp hnm h1 q1 q2 q3 hfc hk
        go_enter Tryd.func20, Tryd.ntmps20
        go_wp2_with fail
        refine hF.mono ?_
        rintro e w1 ⟨rfl, hb1⟩
        obtain ⟨b, off, rfl, hbb, hc0, hc1, hc2, hc3, hc4, hc5, hc6⟩ := ((hl.below hb1).more hb1.size).at_File hlt
        have hi1 : (idxX l id : Int) < (l.length : Int) := by omega
        clear hF
        go_wp2_with fail
        refine (hA _).mono ?_
        rintro e w2 ⟨rfl, rfl⟩
        go_wp2_with fail
        go_ret2
        exact ⟨none, 0, by rw [Hv.out.1, Hv.out.2, Hk.out]; rfl, by rw [Hv.out.2, Hk.out]; exact Vec.nil, hb1⟩
      · rw [hk] at hfc hA
        have Hk := Lib.hid hfc
        clear hp hnm h1 q1 q2 q3 hfc hk
        go_enter Tryd.func20, Tryd.ntmps20
        go_wp2_with fail
        refine hF.mono ?_
        rintro e w1 ⟨rfl, hb1⟩
        obtain ⟨b, off, rfl, hbb, hc0, hc1, hc2, hc3, hc4, hc5, hc6⟩ := ((hl.below hb1).more hb1.size).at_File hlt
        have hi1 : (idxX l id : Int) < (l.length : Int) := by omega
        clear hF
        go_wp2_with fail
        refine (hA _).mono ?_
        rintro e w1 ⟨rfl, rfl⟩
        clear hA
        go_wp2_with fail
        refine (Clone_File _ _ l _ ((hl.below hb1).more hb1.size) hm).mono ?_
        rintro e w2 ⟨A2, c2, rfl, hv2, hb2⟩
        have hB2 := blw hb1 hb2
        obtain ⟨g, rfl⟩ := hv2.some (by omega)
        obtain ⟨f, hr, hbg, hlc, hcm, hstd⟩ := hv2.rowf encFile_len
        have Hstd := Lib.hid hstd
        clear hstd
        have hsf := hr.frozen
        have hbg0 := hb1.size
        have hz7 : idxX l id * 7 + 6 < c2 * 7 := by omega
        have Hn := Lib.hid (show (l.set (idxX l id) ((fClose d) (l[idxX l id]'hlt))).length = l.length from List.length_set)
        have hs4 := hr.cell (i := idxX l id * 7 + 4) (by omega)
        have hs5 := hr.cell (i := idxX l id * 7 + 5) (by omega)
        have hst2 := (Hstd.out.upd1 encFile_len (idxX l id) hlt (⟨(l[idxX l id]'hlt).id, (l[idxX l id]'hlt).series, (l[idxX l id]'hlt).title, (l[idxX l id]'hlt).opened, d, (l[idxX l id]'hlt).state, (l[idxX l id]'hlt).pages⟩ : FileD) 4 (.int .i64 d) (by omega) rfl).upd1 encFile_len (idxX l id) (by simpa using hlt) ((fClose d) (l[idxX l id]'hlt)) 5 (.int .i64 1) (by omega) (by rw [List.getElem_set_self]; rfl)
        rw [List.set_set] at hst2
        have hv3 : Vec ((w2.setCell ⟨g, idxX l id * 7 + 4, none⟩ (.int .i64 d)).setCell ⟨g, idxX l id * 7 + 5, none⟩ (.int .i64 1)) w1.heap.size 55 encFile 7 (.slice (some ⟨g, 0, none⟩) l.length c2) (l.set (idxX l id) ((fClose d) (l[idxX l id]'hlt))) := by
          have h := RowF.vec ((hr.put (idxX l id * 7 + 4) (.int .i64 d)).put (idxX l id * 7 + 5) (.int .i64 1)) encFile_len hbg (by simpa using hlc) hcm hst2
          rwa [List.length_set] at h
        have hB3 : Below w.heap.size w ((w2.setCell ⟨g, idxX l id * 7 + 4, none⟩ (.int .i64 d)).setCell ⟨g, idxX l id * 7 + 5, none⟩ (.int .i64 1)) := (hB2.setCell (p := ⟨g, _, none⟩) (Nat.le_trans hbg0 hbg) _).setCell (p := ⟨g, _, none⟩) (Nat.le_trans hbg0 hbg) _
        clear hst2
        go_wp2_with fail
        go_ret2
        exact ⟨some ⟨g, 0, none⟩, c2, by rw [Hv.out.1, Hv.out.2, Hk.out, keepL_yes, Hn.out]; rfl, by rw [Hv.out.2, Hk.out, keepL_yes, Hn.out]; exact hv3.mono hbg0, hB3⟩

def reopB (l : List FileD) (id : Int)  : Bool := opB l id 1 (true) fReopen
def reopL (l : List FileD) (id : Int)  : List FileD := opL l id 1 (true) fReopen
theorem reopL_le (l : List FileD) (id : Int)  : (reopL l id).length ≤ l.length := opL_le _ _ _ _ _

set_option maxHeartbeats 4000000 in
theorem c_spec_ReopenFile (A : Option Addr) (c : Nat) (l : List FileD) (id : Int)  (w : World) (hl : Ls w w.heap.size encFile 7 A l) (hm : l.length ≤ 1048576) (hnm : ∀ f ∈ l, f.title.size ≤ 1048576) (hcap : l.length ≤ c) :
    Calls Tryd.prog 23 #[.slice A l.length c, .int .i64 id] w (RetSB w 55 encFile 7 (reopL l id) (reopB l id)) := by
  have hlen : (l.length : Int) ≤ 1048576 := by omega
  have hF := l5Find_any A c l id 1 w hl hm hnm hcap
  cases h1 : inSt l id 1
  · have Hv := Lib.hid (show reopB l id = false ∧ reopL l id = [] from opB_no (.inl h1) _)
    have Hz := Lib.hid (show findXI l id 1 = -1 by rw [findXI_in (by omega), h1]; rfl)
    rw [Hz.out] at hF
    clear h1 hnm
    go_enter Tryd.func23, Tryd.ntmps23
    go_wp2_with fail
    refine hF.mono ?_
    rintro e w1 ⟨rfl, hb1⟩
    clear hF
    go_wp2_with fail
    go_ret2
    exact ⟨_, 0, by rw [Hv.out.1, Hv.out.2]; rfl, by rw [Hv.out.2]; exact Vec.empty _ _ _ hb1.size, blw_alloc hb1 _⟩
  · obtain ⟨q1, q2, q3⟩ := inSt_of h1
    have hlt := hasX_lt q2
    have Hz := Lib.hid (show findXI l id 1 = (idxX l id : Int) by rw [findXI_in (by omega), h1]; rfl)
    rw [Hz.out] at hF
    have Hnm := Lib.hid hnm
    have hfl := file_parts (file_of q1 hlt)
    obtain ⟨f1, f2, f3, f4, f5, f6, f7, f8, f9, f10⟩ := hfl
    have htn : (l[idxX l id]'hlt).title.size ≤ 1048576 := hnm _ (List.getElem_mem hlt)
    clear f5 f10
    have Hv := Lib.hid (show reopB l id = _ ∧ reopL l id = _ from opB_yes h1 hlt rfl fReopen)
    clear hnm h1 q1 q2 q3
    go_enter Tryd.func23, Tryd.ntmps23
    go_wp2_with fail
    refine hF.mono ?_
    rintro e w1 ⟨rfl, hb1⟩
    obtain ⟨b, off, rfl, hbb, hc0, hc1, hc2, hc3, hc4, hc5, hc6⟩ := ((hl.below hb1).more hb1.size).at_File hlt
    have hi1 : (idxX l id : Int) < (l.length : Int) := by omega
    clear hF
    go_wp2_with fail
    refine (l5With_any _ _ l (idxX l id) (fReopen (l[idxX l id]'hlt)) _ ((hl.below (blw_alloc hb1 _)).more (blw_alloc hb1 _).size) hm Hnm.out hcap hlt htn).mono ?_
    rintro e w2 ⟨A2, c2, rfl, hv2, hb2⟩
    go_wp2_with fail
    go_ret2
    exact ⟨A2, c2, by rw [Hv.out.1, Hv.out.2]; rfl, by rw [Hv.out.2]; exact hv2.mono (blw_alloc hb1 _).size, blw (blw_alloc hb1 _) hb2⟩

set_option maxHeartbeats 4000000 in
theorem c_impl_ReopenFile (A : Option Addr) (c : Nat) (l : List FileD) (id : Int)  (w : World) (hl : Ls w w.heap.size encFile 7 A l) (hm : l.length ≤ 1048576) (hnm : ∀ f ∈ l, f.title.size ≤ 1048576) (hcap : l.length ≤ c) :
    Calls Tryd.prog 24 #[.slice A l.length c, .int .i64 id] w (RetSB w 55 encFile 7 (reopL l id) (reopB l id)) := by
  have hlen : (l.length : Int) ≤ 1048576 := by omega
  have hF := inState_any A c l id 1 w hl hm hnm hcap
  cases h1 : inSt l id 1
  · have Hv := Lib.hid (show reopB l id = false ∧ reopL l id = [] from opB_no (.inl h1) _)
    rw [h1] at hF
    clear h1 hnm
    go_enter Tryd.func24, Tryd.ntmps24
    go_wp2_with fail
    refine hF.mono ?_
    rintro e w1 ⟨rfl, hb1⟩
    clear hF
    go_wp2_with fail
    go_ret2
    exact ⟨none, 0, by rw [Hv.out.1, Hv.out.2]; rfl, by rw [Hv.out.2]; exact Vec.nil, hb1⟩
  · obtain ⟨q1, q2, q3⟩ := inSt_of h1
    have hlt := hasX_lt q2
    have Hz := Lib.hid (show idxXI l id = (idxX l id : Int) by unfold idxXI; rw [q2]; rfl)
    rw [Hz.out, h1] at hF
    have Hnm := Lib.hid hnm
    have hfl := file_parts (file_of q1 hlt)
    obtain ⟨f1, f2, f3, f4, f5, f6, f7, f8, f9, f10⟩ := hfl
    have htn : (l[idxX l id]'hlt).title.size ≤ 1048576 := hnm _ (List.getElem_mem hlt)
    clear f5 f10
    have Hv := Lib.hid (show reopB l id = _ ∧ reopL l id = _ from opB_yes h1 hlt rfl fReopen)
    have Hk := Lib.hid (fReopen_ok h1 hlt)
    clear hnm h1 q1 q2 q3
    go_enter Tryd.func24, Tryd.ntmps24
    go_wp2_with fail
    refine hF.mono ?_
    rintro e w1 ⟨rfl, hb1⟩
    obtain ⟨b, off, rfl, hbb, hc0, hc1, hc2, hc3, hc4, hc5, hc6⟩ := ((hl.below hb1).more hb1.size).at_File hlt
    have hi1 : (idxX l id : Int) < (l.length : Int) := by omega
    clear hF
    go_wp2_with fail
    refine (Clone_File _ _ l _ ((hl.below hb1).more hb1.size) hm).mono ?_
    rintro e w2 ⟨A2, c2, rfl, hv2, hb2⟩
    have hB2 := blw hb1 hb2
    obtain ⟨g, rfl⟩ := hv2.some (by omega)
    obtain ⟨f, hr, hbg, hlc, hcm, hstd⟩ := hv2.rowf encFile_len
    have Hstd := Lib.hid hstd
    clear hstd
    have hsf := hr.frozen
    have hbg0 := hb1.size
    have hz7 : idxX l id * 7 + 6 < c2 * 7 := by omega
    have Hn := Lib.hid (show (l.set (idxX l id) (fReopen (l[idxX l id]'hlt))).length = l.length from List.length_set)
    have hs4 := hr.cell (i := idxX l id * 7 + 4) (by omega)
    have hs5 := hr.cell (i := idxX l id * 7 + 5) (by omega)
    have hst2 := (Hstd.out.upd1 encFile_len (idxX l id) hlt (⟨(l[idxX l id]'hlt).id, (l[idxX l id]'hlt).series, (l[idxX l id]'hlt).title, (l[idxX l id]'hlt).opened, 0, (l[idxX l id]'hlt).state, (l[idxX l id]'hlt).pages⟩ : FileD) 4 (.int .i64 0) (by omega) rfl).upd1 encFile_len (idxX l id) (by simpa using hlt) (fReopen (l[idxX l id]'hlt)) 5 (.int .i64 0) (by omega) (by rw [List.getElem_set_self]; rfl)
    rw [List.set_set] at hst2
    have hv3 : Vec ((w2.setCell ⟨g, idxX l id * 7 + 4, none⟩ (.int .i64 0)).setCell ⟨g, idxX l id * 7 + 5, none⟩ (.int .i64 0)) w1.heap.size 55 encFile 7 (.slice (some ⟨g, 0, none⟩) l.length c2) (l.set (idxX l id) (fReopen (l[idxX l id]'hlt))) := by
      have h := RowF.vec ((hr.put (idxX l id * 7 + 4) (.int .i64 0)).put (idxX l id * 7 + 5) (.int .i64 0)) encFile_len hbg (by simpa using hlc) hcm hst2
      rwa [List.length_set] at h
    have hB3 : Below w.heap.size w ((w2.setCell ⟨g, idxX l id * 7 + 4, none⟩ (.int .i64 0)).setCell ⟨g, idxX l id * 7 + 5, none⟩ (.int .i64 0)) := (hB2.setCell (p := ⟨g, _, none⟩) (Nat.le_trans hbg0 hbg) _).setCell (p := ⟨g, _, none⟩) (Nat.le_trans hbg0 hbg) _
    clear hst2
    go_wp2_with fail
    go_ret2
    exact ⟨some ⟨g, 0, none⟩, c2, by rw [Hv.out.1, Hv.out.2, Hk.out, keepL_yes, Hn.out]; rfl, by rw [Hv.out.2, Hk.out, keepL_yes, Hn.out]; exact hv3.mono hbg0, hB3⟩

def lendB (l : List FileD) (id : Int) (back : Bool) : Bool := opB l id (lendA back) (true) (fState (lendZ back))
def lendL (l : List FileD) (id : Int) (back : Bool) : List FileD := opL l id (lendA back) (true) (fState (lendZ back))
theorem lendL_le (l : List FileD) (id : Int) (back : Bool) : (lendL l id back).length ≤ l.length := opL_le _ _ _ _ _

set_option maxHeartbeats 4000000 in
theorem c_spec_LendFile (A : Option Addr) (c : Nat) (l : List FileD) (id : Int) (back : Bool) (w : World) (hl : Ls w w.heap.size encFile 7 A l) (hm : l.length ≤ 1048576) (hnm : ∀ f ∈ l, f.title.size ≤ 1048576) (hcap : l.length ≤ c) :
    Calls Tryd.prog 25 #[.slice A l.length c, .int .i64 id, .bool back] w (RetSB w 55 encFile 7 (lendL l id back) (lendB l id back)) := by
  have hlen : (l.length : Int) ≤ 1048576 := by omega
  cases back
  · have hF := l5Find_any A c l id 1 w hl hm hnm hcap
    cases h1 : inSt l id 1
    · have Hv := Lib.hid (show lendB l id false = false ∧ lendL l id false = [] from opB_no (.inl h1) _)
      have Hz := Lib.hid (show findXI l id 1 = -1 by rw [findXI_in (by omega), h1]; rfl)
      rw [Hz.out] at hF
      clear h1 hnm
      go_enter Tryd.func25, Tryd.ntmps25
      go_wp2_with fail
      refine hF.mono ?_
      rintro e w1 ⟨rfl, hb1⟩
      clear hF
      go_wp2_with fail
      go_ret2
      exact ⟨_, 0, by rw [Hv.out.1, Hv.out.2]; rfl, by rw [Hv.out.2]; exact Vec.empty _ _ _ hb1.size, blw_alloc hb1 _⟩
    · obtain ⟨q1, q2, q3⟩ := inSt_of h1
      have hlt := hasX_lt q2
      have Hz := Lib.hid (show findXI l id 1 = (idxX l id : Int) by rw [findXI_in (by omega), h1]; rfl)
      rw [Hz.out] at hF
      have Hnm := Lib.hid hnm
      have hfl := file_parts (file_of q1 hlt)
      obtain ⟨f1, f2, f3, f4, f5, f6, f7, f8, f9, f10⟩ := hfl
      have htn : (l[idxX l id]'hlt).title.size ≤ 1048576 := hnm _ (List.getElem_mem hlt)
      clear f5 f10
      have Hv := Lib.hid (show lendB l id false = _ ∧ lendL l id false = _ from opB_yes h1 hlt rfl (fState (lendZ false)))
      clear hnm h1 q1 q2 q3
      go_enter Tryd.func25, Tryd.ntmps25
      go_wp2_with fail
      refine hF.mono ?_
      rintro e w1 ⟨rfl, hb1⟩
      obtain ⟨b, off, rfl, hbb, hc0, hc1, hc2, hc3, hc4, hc5, hc6⟩ := ((hl.below hb1).more hb1.size).at_File hlt
      have hi1 : (idxX l id : Int) < (l.length : Int) := by omega
      clear hF
      go_wp2_with fail
      refine (l5With_any _ _ l (idxX l id) ((fState (lendZ false)) (l[idxX l id]'hlt)) _ ((hl.below (blw_alloc hb1 _)).more (blw_alloc hb1 _).size) hm Hnm.out hcap hlt htn).mono ?_
      rintro e w2 ⟨A2, c2, rfl, hv2, hb2⟩
      go_wp2_with fail
      go_ret2
      exact ⟨A2, c2, by rw [Hv.out.1, Hv.out.2]; rfl, by rw [Hv.out.2]; exact hv2.mono (blw_alloc hb1 _).size, blw (blw_alloc hb1 _) hb2⟩
  · have hF := l5Find_any A c l id 2 w hl hm hnm hcap
    cases h1 : inSt l id 2
    · have Hv := Lib.hid (show lendB l id true = false ∧ lendL l id true = [] from opB_no (.inl h1) _)
      have Hz := Lib.hid (show findXI l id 2 = -1 by rw [findXI_in (by omega), h1]; rfl)
      rw [Hz.out] at hF
      clear h1 hnm
      go_enter Tryd.func25, Tryd.ntmps25
      go_wp2_with fail
      refine hF.mono ?_
      rintro e w1 ⟨rfl, hb1⟩
      clear hF
      go_wp2_with fail
      go_ret2
      exact ⟨_, 0, by rw [Hv.out.1, Hv.out.2]; rfl, by rw [Hv.out.2]; exact Vec.empty _ _ _ hb1.size, blw_alloc hb1 _⟩
    · obtain ⟨q1, q2, q3⟩ := inSt_of h1
      have hlt := hasX_lt q2
      have Hz := Lib.hid (show findXI l id 2 = (idxX l id : Int) by rw [findXI_in (by omega), h1]; rfl)
      rw [Hz.out] at hF
      have Hnm := Lib.hid hnm
      have hfl := file_parts (file_of q1 hlt)
      obtain ⟨f1, f2, f3, f4, f5, f6, f7, f8, f9, f10⟩ := hfl
      have htn : (l[idxX l id]'hlt).title.size ≤ 1048576 := hnm _ (List.getElem_mem hlt)
      clear f5 f10
      have Hv := Lib.hid (show lendB l id true = _ ∧ lendL l id true = _ from opB_yes h1 hlt rfl (fState (lendZ true)))
      clear hnm h1 q1 q2 q3
      go_enter Tryd.func25, Tryd.ntmps25
      go_wp2_with fail
      refine hF.mono ?_
      rintro e w1 ⟨rfl, hb1⟩
      obtain ⟨b, off, rfl, hbb, hc0, hc1, hc2, hc3, hc4, hc5, hc6⟩ := ((hl.below hb1).more hb1.size).at_File hlt
      have hi1 : (idxX l id : Int) < (l.length : Int) := by omega
      clear hF
      go_wp2_with fail
      refine (l5With_any _ _ l (idxX l id) ((fState (lendZ true)) (l[idxX l id]'hlt)) _ ((hl.below (blw_alloc hb1 _)).more (blw_alloc hb1 _).size) hm Hnm.out hcap hlt htn).mono ?_
      rintro e w2 ⟨A2, c2, rfl, hv2, hb2⟩
      go_wp2_with fail
      go_ret2
      exact ⟨A2, c2, by rw [Hv.out.1, Hv.out.2]; rfl, by rw [Hv.out.2]; exact hv2.mono (blw_alloc hb1 _).size, blw (blw_alloc hb1 _) hb2⟩

set_option maxHeartbeats 4000000 in
theorem c_impl_LendFile (A : Option Addr) (c : Nat) (l : List FileD) (id : Int) (back : Bool) (w : World) (hl : Ls w w.heap.size encFile 7 A l) (hm : l.length ≤ 1048576) (hnm : ∀ f ∈ l, f.title.size ≤ 1048576) (hcap : l.length ≤ c) :
    Calls Tryd.prog 26 #[.slice A l.length c, .int .i64 id, .bool back] w (RetSB w 55 encFile 7 (lendL l id back) (lendB l id back)) := by
  have hlen : (l.length : Int) ≤ 1048576 := by omega
  cases back
  · have hF := inState_any A c l id 1 w hl hm hnm hcap
    cases h1 : inSt l id 1
    · have Hv := Lib.hid (show lendB l id false = false ∧ lendL l id false = [] from opB_no (.inl h1) _)
      rw [h1] at hF
      clear h1 hnm
      go_enter Tryd.func26, Tryd.ntmps26
      go_wp2_with fail
      refine hF.mono ?_
      rintro e w1 ⟨rfl, hb1⟩
      clear hF
      go_wp2_with fail
      go_ret2
      exact ⟨none, 0, by rw [Hv.out.1, Hv.out.2]; rfl, by rw [Hv.out.2]; exact Vec.nil, hb1⟩
    · obtain ⟨q1, q2, q3⟩ := inSt_of h1
      have hlt := hasX_lt q2
      have Hz := Lib.hid (show idxXI l id = (idxX l id : Int) by unfold idxXI; rw [q2]; rfl)
      rw [Hz.out, h1] at hF
      have Hnm := Lib.hid hnm
      have hfl := file_parts (file_of q1 hlt)
      obtain ⟨f1, f2, f3, f4, f5, f6, f7, f8, f9, f10⟩ := hfl
      have htn : (l[idxX l id]'hlt).title.size ≤ 1048576 := hnm _ (List.getElem_mem hlt)
      clear f5 f10
      have Hv := Lib.hid (show lendB l id false = _ ∧ lendL l id false = _ from opB_yes h1 hlt rfl (fState (lendZ false)))
      have Hk := Lib.hid (fState_ok (t := lendZ false) h1 hlt (.inl rfl) (.inr rfl))
      clear hnm h1 q1 q2 q3
      go_enter Tryd.func26, Tryd.ntmps26
      go_wp2_with fail
      refine hF.mono ?_
      rintro e w1 ⟨rfl, hb1⟩
      obtain ⟨b, off, rfl, hbb, hc0, hc1, hc2, hc3, hc4, hc5, hc6⟩ := ((hl.below hb1).more hb1.size).at_File hlt
      have hi1 : (idxX l id : Int) < (l.length : Int) := by omega
      clear hF
      go_wp2_with fail
      refine (Clone_File _ _ l _ ((hl.below hb1).more hb1.size) hm).mono ?_
      rintro e w2 ⟨A2, c2, rfl, hv2, hb2⟩
      have hB2 := blw hb1 hb2
      obtain ⟨g, rfl⟩ := hv2.some (by omega)
      obtain ⟨f, hr, hbg, hlc, hcm, hstd⟩ := hv2.rowf encFile_len
      have Hstd := Lib.hid hstd
      clear hstd
      have hsf := hr.frozen
      have hbg0 := hb1.size
      have hz7 : idxX l id * 7 + 6 < c2 * 7 := by omega
      have Hn := Lib.hid (show (l.set (idxX l id) ((fState (lendZ false)) (l[idxX l id]'hlt))).length = l.length from List.length_set)
      have hs5 := hr.cell (i := idxX l id * 7 + 5) (by omega)
      have hst2 := Hstd.out.upd1 encFile_len (idxX l id) hlt ((fState (lendZ false)) (l[idxX l id]'hlt)) 5 (.int .i64 2) (by omega) rfl
      have hv3 : Vec (w2.setCell ⟨g, idxX l id * 7 + 5, none⟩ (.int .i64 2)) w1.heap.size 55 encFile 7 (.slice (some ⟨g, 0, none⟩) l.length c2) (l.set (idxX l id) ((fState (lendZ false)) (l[idxX l id]'hlt))) := by
        have h := RowF.vec (hr.put (idxX l id * 7 + 5) _) encFile_len hbg (by simpa using hlc) hcm hst2
        rwa [List.length_set] at h
      have hB3 : Below w.heap.size w (w2.setCell ⟨g, idxX l id * 7 + 5, none⟩ (.int .i64 2)) := hB2.setCell (p := ⟨g, _, none⟩) (Nat.le_trans hbg0 hbg) _
      clear hst2
      go_wp2_with fail
      go_ret2
      exact ⟨some ⟨g, 0, none⟩, c2, by rw [Hv.out.1, Hv.out.2, Hk.out, keepL_yes, Hn.out]; rfl, by rw [Hv.out.2, Hk.out, keepL_yes, Hn.out]; exact hv3.mono hbg0, hB3⟩
  · have hF := inState_any A c l id 2 w hl hm hnm hcap
    cases h1 : inSt l id 2
    · have Hv := Lib.hid (show lendB l id true = false ∧ lendL l id true = [] from opB_no (.inl h1) _)
      rw [h1] at hF
      clear h1 hnm
      go_enter Tryd.func26, Tryd.ntmps26
      go_wp2_with fail
      refine hF.mono ?_
      rintro e w1 ⟨rfl, hb1⟩
      clear hF
      go_wp2_with fail
      go_ret2
      exact ⟨none, 0, by rw [Hv.out.1, Hv.out.2]; rfl, by rw [Hv.out.2]; exact Vec.nil, hb1⟩
    · obtain ⟨q1, q2, q3⟩ := inSt_of h1
      have hlt := hasX_lt q2
      have Hz := Lib.hid (show idxXI l id = (idxX l id : Int) by unfold idxXI; rw [q2]; rfl)
      rw [Hz.out, h1] at hF
      have Hnm := Lib.hid hnm
      have hfl := file_parts (file_of q1 hlt)
      obtain ⟨f1, f2, f3, f4, f5, f6, f7, f8, f9, f10⟩ := hfl
      have htn : (l[idxX l id]'hlt).title.size ≤ 1048576 := hnm _ (List.getElem_mem hlt)
      clear f5 f10
      have Hv := Lib.hid (show lendB l id true = _ ∧ lendL l id true = _ from opB_yes h1 hlt rfl (fState (lendZ true)))
      have Hk := Lib.hid (fState_ok (t := lendZ true) h1 hlt (.inr rfl) (.inl rfl))
      clear hnm h1 q1 q2 q3
      go_enter Tryd.func26, Tryd.ntmps26
      go_wp2_with fail
      refine hF.mono ?_
      rintro e w1 ⟨rfl, hb1⟩
      obtain ⟨b, off, rfl, hbb, hc0, hc1, hc2, hc3, hc4, hc5, hc6⟩ := ((hl.below hb1).more hb1.size).at_File hlt
      have hi1 : (idxX l id : Int) < (l.length : Int) := by omega
      clear hF
      go_wp2_with fail
      refine (Clone_File _ _ l _ ((hl.below hb1).more hb1.size) hm).mono ?_
      rintro e w2 ⟨A2, c2, rfl, hv2, hb2⟩
      have hB2 := blw hb1 hb2
      obtain ⟨g, rfl⟩ := hv2.some (by omega)
      obtain ⟨f, hr, hbg, hlc, hcm, hstd⟩ := hv2.rowf encFile_len
      have Hstd := Lib.hid hstd
      clear hstd
      have hsf := hr.frozen
      have hbg0 := hb1.size
      have hz7 : idxX l id * 7 + 6 < c2 * 7 := by omega
      have Hn := Lib.hid (show (l.set (idxX l id) ((fState (lendZ true)) (l[idxX l id]'hlt))).length = l.length from List.length_set)
      have hs5 := hr.cell (i := idxX l id * 7 + 5) (by omega)
      have hst2 := Hstd.out.upd1 encFile_len (idxX l id) hlt ((fState (lendZ true)) (l[idxX l id]'hlt)) 5 (.int .i64 1) (by omega) rfl
      have hv3 : Vec (w2.setCell ⟨g, idxX l id * 7 + 5, none⟩ (.int .i64 1)) w1.heap.size 55 encFile 7 (.slice (some ⟨g, 0, none⟩) l.length c2) (l.set (idxX l id) ((fState (lendZ true)) (l[idxX l id]'hlt))) := by
        have h := RowF.vec (hr.put (idxX l id * 7 + 5) _) encFile_len hbg (by simpa using hlc) hcm hst2
        rwa [List.length_set] at h
      have hB3 : Below w.heap.size w (w2.setCell ⟨g, idxX l id * 7 + 5, none⟩ (.int .i64 1)) := hB2.setCell (p := ⟨g, _, none⟩) (Nat.le_trans hbg0 hbg) _
      clear hst2
      go_wp2_with fail
      go_ret2
      exact ⟨some ⟨g, 0, none⟩, c2, by rw [Hv.out.1, Hv.out.2, Hk.out, keepL_yes, Hn.out]; rfl, by rw [Hv.out.2, Hk.out, keepL_yes, Hn.out]; exact hv3.mono hbg0, hB3⟩

def addPB (l : List FileD) (id : Int) (p : Int) : Bool := opB l id 0 (inB p 1 500) (fAddP p)
def addPL (l : List FileD) (id : Int) (p : Int) : List FileD := opL l id 0 (inB p 1 500) (fAddP p)
theorem addPL_le (l : List FileD) (id : Int) (p : Int) : (addPL l id p).length ≤ l.length := opL_le _ _ _ _ _

set_option maxHeartbeats 4000000 in
theorem c_spec_AddPages (A : Option Addr) (c : Nat) (l : List FileD) (id : Int) (p : Int) (w : World) (hl : Ls w w.heap.size encFile 7 A l) (hm : l.length ≤ 1048576) (hnm : ∀ f ∈ l, f.title.size ≤ 1048576) (hcap : l.length ≤ c) :
    Calls Tryd.prog 27 #[.slice A l.length c, .int .i64 id, .int .i64 p] w (RetSB w 55 encFile 7 (addPL l id p) (addPB l id p)) := by
  have hlen : (l.length : Int) ≤ 1048576 := by omega
  have hF := l5Find_any A c l id 0 w hl hm hnm hcap
  cases h1 : inSt l id 0
  · have Hv := Lib.hid (show addPB l id p = false ∧ addPL l id p = [] from opB_no (.inl h1) _)
    have Hz := Lib.hid (show findXI l id 0 = -1 by rw [findXI_in (by omega), h1]; rfl)
    rw [Hz.out] at hF
    clear h1 hnm
    go_enter Tryd.func27, Tryd.ntmps27
    go_wp2_with fail
    refine hF.mono ?_
    rintro e w1 ⟨rfl, hb1⟩
    clear hF
    go_wp2_with fail
    go_ret2
    exact ⟨_, 0, by rw [Hv.out.1, Hv.out.2]; rfl, by rw [Hv.out.2]; exact Vec.empty _ _ _ hb1.size, blw_alloc hb1 _⟩
  · obtain ⟨q1, q2, q3⟩ := inSt_of h1
    have hlt := hasX_lt q2
    have Hz := Lib.hid (show findXI l id 0 = (idxX l id : Int) by rw [findXI_in (by omega), h1]; rfl)
    rw [Hz.out] at hF
    have Hnm := Lib.hid hnm
    have hfl := file_parts (file_of q1 hlt)
    obtain ⟨f1, f2, f3, f4, f5, f6, f7, f8, f9, f10⟩ := hfl
    have htn : (l[idxX l id]'hlt).title.size ≤ 1048576 := hnm _ (List.getElem_mem hlt)
    clear f5 f10
    cases hp : (inB p 1 500)
    · have Hv := Lib.hid (show addPB l id p = false ∧ addPL l id p = [] from opB_no (.inr hp) _)
      have hA := l1In5_any p 1 500
      rw [hp] at hA
      clear hp hnm h1 q1 q2 q3
      go_enter Tryd.func27, Tryd.ntmps27
      go_wp2_with fail
      refine hF.mono ?_
      rintro e w1 ⟨rfl, hb1⟩
      clear hF
      go_wp2_with fail
      refine (hA _).mono ?_
      rintro e w1 ⟨rfl, rfl⟩
      go_wp2_with fail
      go_ret2
      exact ⟨_, 0, by rw [Hv.out.1, Hv.out.2]; rfl, by rw [Hv.out.2]; exact Vec.empty _ _ _ hb1.size, blw_alloc hb1 _⟩
    · have Hv := Lib.hid (show addPB l id p = _ ∧ addPL l id p = _ from opB_yes h1 hlt hp (fAddP p))
      have hpq := inB_prop hp
      have hA := l1In5_any p 1 500
      rw [hp] at hA
      clear hp hnm h1 q1 q2 q3
      go_enter Tryd.func27, Tryd.ntmps27
      go_wp2_with fail
      refine hF.mono ?_
      rintro e w1 ⟨rfl, hb1⟩
      obtain ⟨b, off, rfl, hbb, hc0, hc1, hc2, hc3, hc4, hc5, hc6⟩ := ((hl.below hb1).more hb1.size).at_File hlt
      have hi1 : (idxX l id : Int) < (l.length : Int) := by omega
      clear hF
      go_wp2_with fail
      refine (hA _).mono ?_
      rintro e w1 ⟨rfl, rfl⟩
      clear hA
      go_wp2_with fail
      refine (l5With_any _ _ l (idxX l id) ((fAddP p) (l[idxX l id]'hlt)) _ ((hl.below (blw_alloc hb1 _)).more (blw_alloc hb1 _).size) hm Hnm.out hcap hlt htn).mono ?_
      rintro e w2 ⟨A2, c2, rfl, hv2, hb2⟩
      go_wp2_with fail
      go_ret2
      exact ⟨A2, c2, by rw [Hv.out.1, Hv.out.2]; rfl, by rw [Hv.out.2]; exact hv2.mono (blw_alloc hb1 _).size, blw (blw_alloc hb1 _) hb2⟩

set_option maxHeartbeats 4000000 in
theorem c_impl_AddPages (A : Option Addr) (c : Nat) (l : List FileD) (id : Int) (p : Int) (w : World) (hl : Ls w w.heap.size encFile 7 A l) (hm : l.length ≤ 1048576) (hnm : ∀ f ∈ l, f.title.size ≤ 1048576) (hcap : l.length ≤ c) :
    Calls Tryd.prog 28 #[.slice A l.length c, .int .i64 id, .int .i64 p] w (RetSB w 55 encFile 7 (addPL l id p) (addPB l id p)) := by
  have hlen : (l.length : Int) ≤ 1048576 := by omega
  have hF := inState_any A c l id 0 w hl hm hnm hcap
  cases h1 : inSt l id 0
  · have Hv := Lib.hid (show addPB l id p = false ∧ addPL l id p = [] from opB_no (.inl h1) _)
    rw [h1] at hF
    clear h1 hnm
    go_enter Tryd.func28, Tryd.ntmps28
    go_wp2_with fail
    refine hF.mono ?_
    rintro e w1 ⟨rfl, hb1⟩
    clear hF
    go_wp2_with fail
    go_ret2
    exact ⟨none, 0, by rw [Hv.out.1, Hv.out.2]; rfl, by rw [Hv.out.2]; exact Vec.nil, hb1⟩
  · obtain ⟨q1, q2, q3⟩ := inSt_of h1
    have hlt := hasX_lt q2
    have Hz := Lib.hid (show idxXI l id = (idxX l id : Int) by unfold idxXI; rw [q2]; rfl)
    rw [Hz.out, h1] at hF
    have Hnm := Lib.hid hnm
    have hfl := file_parts (file_of q1 hlt)
    obtain ⟨f1, f2, f3, f4, f5, f6, f7, f8, f9, f10⟩ := hfl
    have htn : (l[idxX l id]'hlt).title.size ≤ 1048576 := hnm _ (List.getElem_mem hlt)
    clear f5 f10
    cases hp : (inB p 1 500)
    · have Hv := Lib.hid (show addPB l id p = false ∧ addPL l id p = [] from opB_no (.inr hp) _)
      have hA := within5_any p 1 500
      rw [hp] at hA
      clear hp hnm h1 q1 q2 q3
      go_enter Tryd.func28, Tryd.ntmps28
      go_wp2_with fail
      refine hF.mono ?_
      rintro e w1 ⟨rfl, hb1⟩
      obtain ⟨b, off, rfl, hbb, hc0, hc1, hc2, hc3, hc4, hc5, hc6⟩ := ((hl.below hb1).more hb1.size).at_File hlt
      have hi1 : (idxX l id : Int) < (l.length : Int) := by omega
      clear hF
      go_wp2_with fail
      refine (hA _).mono ?_
      rintro e w1 ⟨rfl, rfl⟩
      go_wp2_with fail
      go_ret2
      exact ⟨none, 0, by rw [Hv.out.1, Hv.out.2]; rfl, by rw [Hv.out.2]; exact Vec.nil, hb1⟩
    · have Hv := Lib.hid (show addPB l id p = _ ∧ addPL l id p = _ from opB_yes h1 hlt hp (fAddP p))
      have hpq := inB_prop hp
      have hA := within5_any p 1 500
      rw [hp] at hA
      have hnx := Lib.hid (files_name (i := idxX l id) (x := (fAddP p) (l[idxX l id]'hlt)) hnm htn)
      cases hk : filesB (l.set (idxX l id) ((fAddP p) (l[idxX l id]'hlt)))
      · have Hk := Lib.hid hk
        clear hp hnm h1 q1 q2 q3 hk
        go_enter Tryd.func28, Tryd.ntmps28
        go_wp2_with fail
        refine hF.mono ?_
        rintro e w1 ⟨rfl, hb1⟩
        obtain ⟨b, off, rfl, hbb, hc0, hc1, hc2, hc3, hc4, hc5, hc6⟩ := ((hl.below hb1).more hb1.size).at_File hlt
        have hi1 : (idxX l id : Int) < (l.length : Int) := by omega
        clear hF
        go_wp2_with fail
        refine (hA _).mono ?_
        rintro e w1 ⟨rfl, rfl⟩
        clear hA
        go_wp2_with fail
        refine (Clone_File _ _ l _ ((hl.below hb1).more hb1.size) hm).mono ?_
        rintro e w2 ⟨A2, c2, rfl, hv2, hb2⟩
        have hB2 := blw hb1 hb2
        obtain ⟨g, rfl⟩ := hv2.some (by omega)
        obtain ⟨f, hr, hbg, hlc, hcm, hstd⟩ := hv2.rowf encFile_len
        have Hstd := Lib.hid hstd
        clear hstd
        have hsf := hr.frozen
        have hbg0 := hb1.size
        have hz7 : idxX l id * 7 + 6 < c2 * 7 := by omega
        have Hn := Lib.hid (show (l.set (idxX l id) ((fAddP p) (l[idxX l id]'hlt))).length = l.length from List.length_set)
        have hs6 := hr.cell (i := idxX l id * 7 + 6) (by omega)
        have h6 : f (idxX l id * 7 + 6) = .int .i64 (l[idxX l id]'hlt).pages := Hstd.out _ hlt 6 _ rfl
        rw [h6] at hs6
        clear h6
        have hst2 := Hstd.out.upd1 encFile_len (idxX l id) hlt ((fAddP p) (l[idxX l id]'hlt)) 6 (.int .i64 ((l[idxX l id]'hlt).pages + p)) (by omega) rfl
        have hv3 : Vec (w2.setCell ⟨g, idxX l id * 7 + 6, none⟩ (.int .i64 ((l[idxX l id]'hlt).pages + p))) w1.heap.size 55 encFile 7 (.slice (some ⟨g, 0, none⟩) (l.set (idxX l id) ((fAddP p) (l[idxX l id]'hlt))).length c2) (l.set (idxX l id) ((fAddP p) (l[idxX l id]'hlt))) := RowF.vec (hr.put (idxX l id * 7 + 6) _) encFile_len hbg (by simpa using hlc) hcm hst2
        have hB3 : Below w.heap.size w (w2.setCell ⟨g, idxX l id * 7 + 6, none⟩ (.int .i64 ((l[idxX l id]'hlt).pages + p))) := hB2.setCell (p := ⟨g, _, none⟩) (Nat.le_trans hbg0 hbg) _
        clear hst2
        go_wp2_with fail
        refine (AreFiles_n (some ⟨g, 0, none⟩) c2 _ _ _ Hn.out (hv3.ls encFile_len) (by rw [Hn.out]; omega) hnx.out (by rw [Hn.out]; exact hlc)).mono ?_
        rw [Hk.out]
        rintro e w3 ⟨rfl, hb3⟩
        go_wp2_with fail
        go_ret2
        exact ⟨none, 0, by rw [Hv.out.1, Hv.out.2, Hk.out]; rfl, by rw [Hv.out.2, Hk.out]; exact Vec.nil, blw hB3 hb3⟩
      · have Hk := Lib.hid hk
        clear hp hnm h1 q1 q2 q3 hk
        go_enter Tryd.func28, Tryd.ntmps28
        go_wp2_with fail
        refine hF.mono ?_
        rintro e w1 ⟨rfl, hb1⟩
        obtain ⟨b, off, rfl, hbb, hc0, hc1, hc2, hc3, hc4, hc5, hc6⟩ := ((hl.below hb1).more hb1.size).at_File hlt
        have hi1 : (idxX l id : Int) < (l.length : Int) := by omega
        clear hF
        go_wp2_with fail
        refine (hA _).mono ?_
        rintro e w1 ⟨rfl, rfl⟩
        clear hA
        go_wp2_with fail
        refine (Clone_File _ _ l _ ((hl.below hb1).more hb1.size) hm).mono ?_
        rintro e w2 ⟨A2, c2, rfl, hv2, hb2⟩
        have hB2 := blw hb1 hb2
        obtain ⟨g, rfl⟩ := hv2.some (by omega)
        obtain ⟨f, hr, hbg, hlc, hcm, hstd⟩ := hv2.rowf encFile_len
        have Hstd := Lib.hid hstd
        clear hstd
        have hsf := hr.frozen
        have hbg0 := hb1.size
        have hz7 : idxX l id * 7 + 6 < c2 * 7 := by omega
        have Hn := Lib.hid (show (l.set (idxX l id) ((fAddP p) (l[idxX l id]'hlt))).length = l.length from List.length_set)
        have hs6 := hr.cell (i := idxX l id * 7 + 6) (by omega)
        have h6 : f (idxX l id * 7 + 6) = .int .i64 (l[idxX l id]'hlt).pages := Hstd.out _ hlt 6 _ rfl
        rw [h6] at hs6
        clear h6
        have hst2 := Hstd.out.upd1 encFile_len (idxX l id) hlt ((fAddP p) (l[idxX l id]'hlt)) 6 (.int .i64 ((l[idxX l id]'hlt).pages + p)) (by omega) rfl
        have hv3 : Vec (w2.setCell ⟨g, idxX l id * 7 + 6, none⟩ (.int .i64 ((l[idxX l id]'hlt).pages + p))) w1.heap.size 55 encFile 7 (.slice (some ⟨g, 0, none⟩) (l.set (idxX l id) ((fAddP p) (l[idxX l id]'hlt))).length c2) (l.set (idxX l id) ((fAddP p) (l[idxX l id]'hlt))) := RowF.vec (hr.put (idxX l id * 7 + 6) _) encFile_len hbg (by simpa using hlc) hcm hst2
        have hB3 : Below w.heap.size w (w2.setCell ⟨g, idxX l id * 7 + 6, none⟩ (.int .i64 ((l[idxX l id]'hlt).pages + p))) := hB2.setCell (p := ⟨g, _, none⟩) (Nat.le_trans hbg0 hbg) _
        clear hst2
        go_wp2_with fail
        refine (AreFiles_n (some ⟨g, 0, none⟩) c2 _ _ _ Hn.out (hv3.ls encFile_len) (by rw [Hn.out]; omega) hnx.out (by rw [Hn.out]; exact hlc)).mono ?_
        rw [Hk.out]
        rintro e w3 ⟨rfl, hb3⟩
        go_wp2_with fail
        go_ret2
        exact ⟨some ⟨g, 0, none⟩, c2, by rw [Hv.out.1, Hv.out.2, Hk.out, keepL_yes, Hn.out]; rfl, by rw [Hv.out.2, Hk.out, keepL_yes]; exact (hv3.mono hbg0).on hb3, blw hB3 hb3⟩


end Go.Proofs.YtfepopkgnomdgaaDoor
