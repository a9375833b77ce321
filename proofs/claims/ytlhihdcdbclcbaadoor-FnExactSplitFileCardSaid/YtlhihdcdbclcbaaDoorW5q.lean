/- Contracts: SplitFile. -/
import Derived.Test.YtlhihdcdbclcbaaDoorW5o
import Derived.Test.YtlhihdcdbclcbaaDoorSg
namespace Go.Proofs.YtlhihdcdbclcbaaDoor
set_option linter.unusedVariables false
set_option linter.unusedSimpArgs false
open Go.RowKit
attribute [local go_sem] Aft.cell

theorem Std.putFileQ {l : List FileD} {f : Nat → Value} (h : Std encFile 7 l f) (i : Nat) (x : FileD) : Std encFile 7 (l.set i x) (upd (upd (upd (upd (upd (upd (upd f (i * 7) (.int .i64 x.id)) (i * 7 + 1) (.int .i64 x.series)) (i * 7 + 2) (.string x.title)) (i * 7 + 3) (.int .i64 x.opened)) (i * 7 + 4) (.int .i64 x.closed)) (i * 7 + 5) (.int .i64 x.state)) (i * 7 + 6) (.int .i64 x.pages)) :=
  h.set encFile_len i x (fun j u hu => by
    have hj : j < 7 := by have hq := (List.getElem?_eq_some_iff.1 hu).1; rwa [encFile_len] at hq
    match j, hj, hu with
    | 0, _, hu => simp [encFile] at hu; subst hu; simp [upd]
    | 1, _, hu => simp [encFile] at hu; subst hu; simp [upd]
    | 2, _, hu => simp [encFile] at hu; subst hu; simp [upd]
    | 3, _, hu => simp [encFile] at hu; subst hu; simp [upd]
    | 4, _, hu => simp [encFile] at hu; subst hu; simp [upd]
    | 5, _, hu => simp [encFile] at hu; subst hu; simp [upd]
    | 6, _, hu => simp [encFile] at hu; subst hu; simp [upd]) (fun m hm => by rw [upd_other (by omega), upd_other (by omega), upd_other (by omega), upd_other (by omega), upd_other (by omega), upd_other (by omega), upd_other (by omega)])
def RetSI {α : Type} (w : World) (t : TypeId) (en : α → List Value) (sz : Nat) (l : List α) (n : Int) (b : Bool) (e : Ending) (w' : World) : Prop :=
  ∃ A c, e = .returned (.tuple #[.slice A l.length c, .int .i64 n, .bool b]) ∧ Vec w' w.heap.size t en sz (.slice A l.length c) l ∧ Below w.heap.size w w'
def splF (l : List FileD) (id p : Int) (t : ByteArray) : List FileD := match l[idxX l id]? with
  | none => l
  | some f => l.set (idxX l id) (fPages (f.pages - p) f) ++ [⟨idXt l (l.length - 1) + 1, f.series, t, f.opened, 0, 0, p⟩]
def splB (l : List FileD) (id p : Int) (t : ByteArray) : Bool := inSt l id 0 && (inB p 1 (pgAt l (idxX l id) - 1) && filesB (splF l id p t))
def splL (l : List FileD) (id p : Int) (t : ByteArray) : List FileD := if splB l id p t then splF l id p t else []
def splI (l : List FileD) (id p : Int) (t : ByteArray) : Int := if splB l id p t then idXt l (l.length - 1) + 1 else 0
theorem splL_le (l : List FileD) (id p : Int) (t : ByteArray) : (splL l id p t).length ≤ 10 := by
  unfold splL
  split
  · next h =>
    simp only [splB, Bool.and_eq_true] at h
    exact (files_all h.2.2).1
  · simp
theorem splB_no {l : List FileD} {id p : Int} {t : ByteArray} (h : inSt l id 0 = false ∨ inB p 1 (pgAt l (idxX l id) - 1) = false) : splB l id p t = false ∧ splL l id p t = [] ∧ splI l id p t = 0 := by
  have h1 : splB l id p t = false := by
    unfold splB
    rcases h with h | h <;> simp [h]
  exact ⟨h1, by simp [splL, h1], by simp [splI, h1]⟩
theorem splF_eq {l : List FileD} {id : Int} (hlt : idxX l id < l.length) (p : Int) (t : ByteArray) : splF l id p t = ((l.set (idxX l id) (fPages ((l[idxX l id]'hlt).pages - p) (l[idxX l id]'hlt))) ++ [(⟨idXt l (l.length - 1) + 1, (l[idxX l id]'hlt).series, t, (l[idxX l id]'hlt).opened, 0, 0, p⟩ : FileD)]) := by
  unfold splF
  rw [List.getElem?_eq_getElem hlt]
theorem splB_bad {l : List FileD} {id p : Int} {t : ByteArray} (hlt : idxX l id < l.length) (h : filesB ((l.set (idxX l id) (fPages ((l[idxX l id]'hlt).pages - p) (l[idxX l id]'hlt))) ++ [(⟨idXt l (l.length - 1) + 1, (l[idxX l id]'hlt).series, t, (l[idxX l id]'hlt).opened, 0, 0, p⟩ : FileD)]) = false) : splB l id p t = false ∧ splL l id p t = [] ∧ splI l id p t = 0 := by
  have h1 : splB l id p t = false := by
    unfold splB
    rw [splF_eq hlt, h]
    simp
  exact ⟨h1, by simp [splL, h1], by simp [splI, h1]⟩
theorem splB_yes {l : List FileD} {id p : Int} {t : ByteArray} (hlt : idxX l id < l.length) (h1 : inSt l id 0 = true) (h2 : inB p 1 (pgAt l (idxX l id) - 1) = true) (h : filesB ((l.set (idxX l id) (fPages ((l[idxX l id]'hlt).pages - p) (l[idxX l id]'hlt))) ++ [(⟨idXt l (l.length - 1) + 1, (l[idxX l id]'hlt).series, t, (l[idxX l id]'hlt).opened, 0, 0, p⟩ : FileD)]) = true) :
    splB l id p t = true ∧ splL l id p t = ((l.set (idxX l id) (fPages ((l[idxX l id]'hlt).pages - p) (l[idxX l id]'hlt))) ++ [(⟨idXt l (l.length - 1) + 1, (l[idxX l id]'hlt).series, t, (l[idxX l id]'hlt).opened, 0, 0, p⟩ : FileD)]) ∧ splI l id p t = idXt l (l.length - 1) + 1 := by
  have h3 : splB l id p t = true := by
    unfold splB
    rw [splF_eq hlt, h, h1, h2]
    rfl
  exact ⟨h3, by unfold splL; rw [if_pos h3, splF_eq hlt], by unfold splI; rw [if_pos h3]⟩
theorem files_id {l : List FileD} (h : filesB l = true) {i : Nat} (hi : i < l.length) : 1 ≤ idXt l i ∧ idXt l i ≤ 999 := by
  have := file_parts (file_of h hi)
  rw [idXt_eq hi] at this
  omega
theorem files_more {l : List FileD} {x : FileD} (hnm : ∀ f ∈ l, f.title.size ≤ 1048576) (hs : x.title.size ≤ 1048576) : ∀ f ∈ l ++ [x], f.title.size ≤ 1048576 := fun f hf => by
  rcases List.mem_append.1 hf with h | h
  · exact hnm f h
  · rw [List.mem_singleton.1 h]; exact hs
theorem setX_id {l : List FileD} {i : Nat} (hi : i < l.length) {x : FileD} (h : x.id = l[i].id) (j : Nat) : idXt (l.set i x) j = idXt l j := by
  unfold idXt
  rw [List.getElem?_set]
  by_cases hq : i = j
  · subst hq; simp [hi, h]
  · simp [hq]

set_option maxHeartbeats 8000000 in
theorem c_impl_SplitFile (A : Option Addr) (c : Nat) (l : List FileD) (id p : Int) (t : ByteArray) (w : World) (hl : Ls w w.heap.size encFile 7 A l) (hm : l.length ≤ 1048576) (hnm : ∀ f ∈ l, f.title.size ≤ 1048576) (hcap : l.length ≤ c) (hs : t.size ≤ 1048576) :
    Calls Tryd.prog 16 #[.slice A l.length c, .int .i64 id, .int .i64 p, .string t] w (RetSI w 47 encFile 7 (splL l id p t) (splI l id p t) (splB l id p t)) := by
  have hlen : (l.length : Int) ≤ 1048576 := by omega
  have hF := inState_any A c l id 0 w hl hm hnm hcap
  cases h1 : inSt l id 0
  · have Hv := Lib.hid (splB_no (p := p) (t := t) (.inl h1))
    rw [h1] at hF
    clear h1 hnm
    go_enter Tryd.func16, Tryd.ntmps16
    go_wp2_with fail
    refine hF.mono ?_
    rintro e w1 ⟨rfl, hb1⟩
    clear hF
    go_wp2_with fail
    go_ret3
    exact ⟨none, 0, by rw [Hv.out.1, Hv.out.2.1, Hv.out.2.2]; rfl, by rw [Hv.out.2.1]; exact Vec.nil, hb1⟩
  · obtain ⟨q1, q2, q3⟩ := inSt_of h1
    have hlt := hasX_lt q2
    have hlast : l.length - 1 < l.length := by omega
    have Hz := Lib.hid (show idxXI l id = (idxX l id : Int) by unfold idxXI; rw [q2]; rfl)
    rw [Hz.out, h1] at hF
    have hfl := file_parts (file_of q1 hlt)
    rw [pgAt_eq] at hfl
    obtain ⟨f1, f2, f3, f4, f5, f6, f7, f8, f9, f10⟩ := hfl
    have hl10 := (files_all q1).1
    have hid1 := files_id q1 hlast
    have hA := within5_any p 1 (pgAt l (idxX l id) - 1)
    clear f5 f10
    cases hp : inB p 1 (pgAt l (idxX l id) - 1)
    · rw [hp] at hA
      have Hv := Lib.hid (splB_no (t := t) (.inr hp))
      clear hp h1 q1 q2 q3 hnm
      go_enter Tryd.func16, Tryd.ntmps16
      go_wp2_with fail
      refine hF.mono ?_
      rintro e w1 ⟨rfl, hb1⟩
      obtain ⟨b, off, rfl, hbb, hc0, hc1, hc2, hc3, hc4, hc5, hc6⟩ := ((hl.below hb1).more hb1.size).at_File hlt
      obtain ⟨b', off', hbo, _, hd0, hd1, hd2, hd3, hd4, hd5, hd6⟩ := ((hl.below hb1).more hb1.size).at_File hlast
      cases hbo
      rw [idXt_eq] at hd0
      rw [pgAt_eq] at hc6
      have hi1 : (idxX l id : Int) < (l.length : Int) := by omega
      have hi2 : 1 ≤ (l.length : Int) := by omega
      have hi3 : (l.length : Int) - 1 < (l.length : Int) := by omega
      clear hF hd1 hd2 hd3 hd4 hd5 hd6
      go_wp2_with fail
      refine (hA _).mono ?_
      rintro e w1 ⟨rfl, rfl⟩
      go_wp2_with fail
      go_ret3
      exact ⟨none, 0, by rw [Hv.out.1, Hv.out.2.1, Hv.out.2.2]; rfl, by rw [Hv.out.2.1]; exact Vec.nil, hb1⟩
    · rw [hp] at hA
      have hpq := inB_prop hp
      have hnx := Lib.hid (files_more (x := (⟨idXt l (l.length - 1) + 1, (l[idxX l id]'hlt).series, t, (l[idxX l id]'hlt).opened, 0, 0, p⟩ : FileD)) (files_name (i := idxX l id) (x := (fPages ((l[idxX l id]'hlt).pages - p) (l[idxX l id]'hlt))) hnm (show ((fPages ((l[idxX l id]'hlt).pages - p) (l[idxX l id]'hlt))).title.size ≤ 1048576 from hnm (l[idxX l id]'hlt) (List.getElem_mem hlt))) hs)
      have hlx := Lib.hid (show (l.set (idxX l id) (fPages ((l[idxX l id]'hlt).pages - p) (l[idxX l id]'hlt))).length = l.length from List.length_set)
      have hF1 : (l.set (idxX l id) (fPages ((l[idxX l id]'hlt).pages - p) (l[idxX l id]'hlt))).length + [(⟨idXt l (l.length - 1) + 1, (l[idxX l id]'hlt).series, t, (l[idxX l id]'hlt).opened, 0, 0, p⟩ : FileD)].length ≤ maxLen := by unfold maxLen; rw [hlx.out]; simp; omega
      have hF2 : ((l.set (idxX l id) (fPages ((l[idxX l id]'hlt).pages - p) (l[idxX l id]'hlt))).length + [(⟨idXt l (l.length - 1) + 1, (l[idxX l id]'hlt).series, t, (l[idxX l id]'hlt).opened, 0, 0, p⟩ : FileD)].length) * 64 ≤ 140737488355328 := by rw [hlx.out]; simp; omega
      have hla := Lib.hid (show ((l.set (idxX l id) (fPages ((l[idxX l id]'hlt).pages - p) (l[idxX l id]'hlt))) ++ [(⟨idXt l (l.length - 1) + 1, (l[idxX l id]'hlt).series, t, (l[idxX l id]'hlt).opened, 0, 0, p⟩ : FileD)]).length = l.length + 1 by rw [List.length_append, hlx.out]; rfl)
      cases hk : filesB ((l.set (idxX l id) (fPages ((l[idxX l id]'hlt).pages - p) (l[idxX l id]'hlt))) ++ [(⟨idXt l (l.length - 1) + 1, (l[idxX l id]'hlt).series, t, (l[idxX l id]'hlt).opened, 0, 0, p⟩ : FileD)])
      · have Hv := Lib.hid (splB_bad hlt hk)
        have Hk := Lib.hid hk
        clear hk hp h1 q1 q2 q3 hnm
        go_enter Tryd.func16, Tryd.ntmps16
        go_wp2_with fail
        refine hF.mono ?_
        rintro e w1 ⟨rfl, hb1⟩
        obtain ⟨b, off, rfl, hbb, hc0, hc1, hc2, hc3, hc4, hc5, hc6⟩ := ((hl.below hb1).more hb1.size).at_File hlt
        obtain ⟨b', off', hbo, _, hd0, hd1, hd2, hd3, hd4, hd5, hd6⟩ := ((hl.below hb1).more hb1.size).at_File hlast
        cases hbo
        rw [idXt_eq] at hd0
        rw [pgAt_eq] at hc6
        have hi1 : (idxX l id : Int) < (l.length : Int) := by omega
        have hi2 : 1 ≤ (l.length : Int) := by omega
        have hi3 : (l.length : Int) - 1 < (l.length : Int) := by omega
        clear hF hd1 hd2 hd3 hd4 hd5 hd6
        go_wp2_with fail
        refine (hA _).mono ?_
        rintro e w1 ⟨rfl, rfl⟩
        clear hA
        go_wp2_with fail
        refine (Clone_File _ _ l _ ((hl.below hb1).more hb1.size) hm).mono ?_
        rintro e w2 ⟨A2, c2, rfl, hv2, hb2⟩
        have hB2 := blw hb1 hb2
        have hz1 := hb1.size
        obtain ⟨g, rfl⟩ := hv2.some (by omega)
        obtain ⟨f, hr, hbg, hlc, hcm, hstd⟩ := hv2.rowf encFile_len
        have HST := Lib.hid (hstd.upd1 encFile_len (idxX l id) hlt (fPages ((l[idxX l id]'hlt).pages - p) (l[idxX l id]'hlt)) 6 (.int .i64 (pgAt l (idxX l id) - p)) (by omega) (by rw [← pgAt_eq hlt]; rfl))
        have hsf := hr.frozen
        have hs6 := hr.cell (i := idxX l id * 7 + 6) (by omega)
        have hs0 := hr.cell (i := (l.length - 1) * 7) (by omega)
        have hs1 := hr.cell (i := idxX l id * 7 + 1) (by omega)
        have hs3 := hr.cell (i := idxX l id * 7 + 3) (by omega)
        have e6 : f (idxX l id * 7 + 6) = .int .i64 (l[idxX l id]'hlt).pages := hstd _ hlt 6 _ rfl
        have e1 : f (idxX l id * 7 + 1) = .int .i64 (l[idxX l id]'hlt).series := hstd _ hlt 1 _ rfl
        have e3 : f (idxX l id * 7 + 3) = .int .i64 (l[idxX l id]'hlt).opened := hstd _ hlt 3 _ rfl
        have e0 : f ((l.length - 1) * 7) = .int .i64 (idXt l (l.length - 1)) := by rw [← idXt_eq hlast]; exact hstd _ hlast 0 _ rfl
        rw [e6] at hs6
        rw [e1] at hs1
        rw [e3] at hs3
        rw [e0] at hs0
        rw [pgAt_eq] at hs6
        obtain ⟨w3, hw3⟩ : ∃ w3 : World, w3 = w2.setCell ⟨g, idxX l id * 7 + 6, none⟩ (.int .i64 (pgAt l (idxX l id) - p)) := ⟨_, rfl⟩
        have hr3 := hr.put (idxX l id * 7 + 6) (.int .i64 (pgAt l (idxX l id) - p))
        rw [← hw3] at hr3
        go_wp2_with fail
        rw [← hw3]
        replace hs0 := hr3.cell (i := (l.length - 1) * 7) (by omega)
        replace hs1 := hr3.cell (i := idxX l id * 7 + 1) (by omega)
        replace hs3 := hr3.cell (i := idxX l id * 7 + 3) (by omega)
        rw [upd_other (by omega), e0] at hs0
        rw [upd_other (by omega), e1] at hs1
        rw [upd_other (by omega), e3] at hs3
        have Hw3 := Lib.hid hw3
        have hB3 : Below w.heap.size w w3 := by rw [Hw3.out]; exact hB2.setCell (p := ⟨g, _, none⟩) (Nat.le_trans hz1 hbg) _
        clear hw3 hs6 e0 e1 e3 e6 hstd
        have hgl := hr3.lt
        go_big_region
        have hv3 : Vec w3 w1.heap.size 47 encFile 7 (.slice (some ⟨g, 0, none⟩) (l.set (idxX l id) (fPages ((l[idxX l id]'hlt).pages - p) (l[idxX l id]'hlt))).length c2) (l.set (idxX l id) (fPages ((l[idxX l id]'hlt).pages - p) (l[idxX l id]'hlt))) := RowF.vec hr3 encFile_len hbg (by rw [hlx.out]; exact hlc) hcm HST.out
        have hv4 := (hv3.alloc (.cells #[.int .i64 (idXt l (l.length - 1) + 1), .int .i64 (l[idxX l id]'hlt).series, .string t, .int .i64 (l[idxX l id]'hlt).opened, .int .i64 0, .int .i64 0, .int .i64 p] 47)).drew
        have hx4 := (Blk.new w3 47 #[.int .i64 (idXt l (l.length - 1) + 1), .int .i64 (l[idxX l id]'hlt).series, .string t, .int .i64 (l[idxX l id]'hlt).opened, .int .i64 0, .int .i64 0, .int .i64 p]).drew
        have hB4 := (blw_alloc hB3 (.cells #[.int .i64 (idXt l (l.length - 1) + 1), .int .i64 (l[idxX l id]'hlt).series, .string t, .int .i64 (l[idxX l id]'hlt).opened, .int .i64 0, .int .i64 0, .int .i64 p] 47)).drew
        have hne : ¬ blkOf (some ⟨g, 0, none⟩) w3.heap.size := fun hS => by obtain ⟨q, hq⟩ := hS; simp at hq <;> omega
        have Hne := Lib.hid hne
        have hw34 : w3.heap.size < (w3.alloc (.cells #[.int .i64 (idXt l (l.length - 1) + 1), .int .i64 (l[idxX l id]'hlt).series, .string t, .int .i64 (l[idxX l id]'hlt).opened, .int .i64 0, .int .i64 0, .int .i64 p] 47)).drew.heap.size := hx4.lt
        generalize (w3.alloc (.cells #[.int .i64 (idXt l (l.length - 1) + 1), .int .i64 (l[idxX l id]'hlt).series, .string t, .int .i64 (l[idxX l id]'hlt).opened, .int .i64 0, .int .i64 0, .int .i64 p] 47)).drew = w4 at *
        have y0 := hx4.cell 0
        have y1 := hx4.cell 1
        have y2 := hx4.cell 2
        have y3 := hx4.cell 3
        have y4 := hx4.cell 4
        have y5 := hx4.cell 5
        have y6 := hx4.cell 6
        have Hv4 := Lib.hid hv4
        have hw14 : w1.heap.size ≤ w4.heap.size := by omega
        clear hr3 hv3 hv4 hs0 hs1 hs3 hr hsf hne
        go_wp2_with (at_builtin; refine wpList_app rfl (.tmp 66) (.tmp 68) 27 rfl 47 (.agg #[.int .i64 0, .int .i64 0, .string ⟨#[]⟩, .int .i64 0, .int .i64 0, .int .i64 0, .int .i64 0]) 7 64 Tryd.underlying27 (by kernel_rfl) rfl (by omega) encFile_len one_file (some ⟨g, 0, none⟩) c2 (l.set (idxX l id) (fPages ((l[idxX l id]'hlt).pages - p) (l[idxX l id]'hlt))) (by rw [hlx.out]; rfl) (Hv4.out.alloc _) (some ⟨w4.heap.size, 0, none⟩) 1 (w4.heap.size + 1) [(⟨idXt l (l.length - 1) + 1, (l[idxX l id]'hlt).series, t, (l[idxX l id]'hlt).opened, 0, 0, p⟩ : FileD)] rfl (Ls.one_at rfl rfl) hF1 hF2 (by simp; omega) ?_; intro A5 c5 w5 hv5 hw5)
        have hB5 : Below w.heap.size w w5 := (blw_alloc hB4 _).trans (hw5.below (blw_alloc hB4 _).size (fun q hq => by have := (Hv4.out.block hq).1; omega))
        refine (AreFiles_n _ _ _ ((l.set (idxX l id) (fPages ((l[idxX l id]'hlt).pages - p) (l[idxX l id]'hlt))) ++ [(⟨idXt l (l.length - 1) + 1, (l[idxX l id]'hlt).series, t, (l[idxX l id]'hlt).opened, 0, 0, p⟩ : FileD)]) _ (by simp) (hv5.ls encFile_len) (by rw [hla.out]; omega) hnx.out hv5.capOk).mono ?_
        rw [Hk.out]
        rintro e w6 ⟨rfl, hb6⟩
        go_wp2_with fail
        go_ret3
        exact ⟨none, 0, by rw [Hv.out.1, Hv.out.2.1, Hv.out.2.2]; rfl, by rw [Hv.out.2.1]; exact Vec.nil, blw hB5 hb6⟩
      · have Hv := Lib.hid (splB_yes hlt h1 hp hk)
        have Hk := Lib.hid hk
        clear hk hp h1 q1 q2 q3 hnm
        go_enter Tryd.func16, Tryd.ntmps16
        go_wp2_with fail
        refine hF.mono ?_
        rintro e w1 ⟨rfl, hb1⟩
        obtain ⟨b, off, rfl, hbb, hc0, hc1, hc2, hc3, hc4, hc5, hc6⟩ := ((hl.below hb1).more hb1.size).at_File hlt
        obtain ⟨b', off', hbo, _, hd0, hd1, hd2, hd3, hd4, hd5, hd6⟩ := ((hl.below hb1).more hb1.size).at_File hlast
        cases hbo
        rw [idXt_eq] at hd0
        rw [pgAt_eq] at hc6
        have hi1 : (idxX l id : Int) < (l.length : Int) := by omega
        have hi2 : 1 ≤ (l.length : Int) := by omega
        have hi3 : (l.length : Int) - 1 < (l.length : Int) := by omega
        clear hF hd1 hd2 hd3 hd4 hd5 hd6
        go_wp2_with fail
        refine (hA _).mono ?_
        rintro e w1 ⟨rfl, rfl⟩
        clear hA
        go_wp2_with fail
        refine (Clone_File _ _ l _ ((hl.below hb1).more hb1.size) hm).mono ?_
        rintro e w2 ⟨A2, c2, rfl, hv2, hb2⟩
        have hB2 := blw hb1 hb2
        have hz1 := hb1.size
        obtain ⟨g, rfl⟩ := hv2.some (by omega)
        obtain ⟨f, hr, hbg, hlc, hcm, hstd⟩ := hv2.rowf encFile_len
        have HST := Lib.hid (hstd.upd1 encFile_len (idxX l id) hlt (fPages ((l[idxX l id]'hlt).pages - p) (l[idxX l id]'hlt)) 6 (.int .i64 (pgAt l (idxX l id) - p)) (by omega) (by rw [← pgAt_eq hlt]; rfl))
        have hsf := hr.frozen
        have hs6 := hr.cell (i := idxX l id * 7 + 6) (by omega)
        have hs0 := hr.cell (i := (l.length - 1) * 7) (by omega)
        have hs1 := hr.cell (i := idxX l id * 7 + 1) (by omega)
        have hs3 := hr.cell (i := idxX l id * 7 + 3) (by omega)
        have e6 : f (idxX l id * 7 + 6) = .int .i64 (l[idxX l id]'hlt).pages := hstd _ hlt 6 _ rfl
        have e1 : f (idxX l id * 7 + 1) = .int .i64 (l[idxX l id]'hlt).series := hstd _ hlt 1 _ rfl
        have e3 : f (idxX l id * 7 + 3) = .int .i64 (l[idxX l id]'hlt).opened := hstd _ hlt 3 _ rfl
        have e0 : f ((l.length - 1) * 7) = .int .i64 (idXt l (l.length - 1)) := by rw [← idXt_eq hlast]; exact hstd _ hlast 0 _ rfl
        rw [e6] at hs6
        rw [e1] at hs1
        rw [e3] at hs3
        rw [e0] at hs0
        rw [pgAt_eq] at hs6
        obtain ⟨w3, hw3⟩ : ∃ w3 : World, w3 = w2.setCell ⟨g, idxX l id * 7 + 6, none⟩ (.int .i64 (pgAt l (idxX l id) - p)) := ⟨_, rfl⟩
        have hr3 := hr.put (idxX l id * 7 + 6) (.int .i64 (pgAt l (idxX l id) - p))
        rw [← hw3] at hr3
        go_wp2_with fail
        rw [← hw3]
        replace hs0 := hr3.cell (i := (l.length - 1) * 7) (by omega)
        replace hs1 := hr3.cell (i := idxX l id * 7 + 1) (by omega)
        replace hs3 := hr3.cell (i := idxX l id * 7 + 3) (by omega)
        rw [upd_other (by omega), e0] at hs0
        rw [upd_other (by omega), e1] at hs1
        rw [upd_other (by omega), e3] at hs3
        have Hw3 := Lib.hid hw3
        have hB3 : Below w.heap.size w w3 := by rw [Hw3.out]; exact hB2.setCell (p := ⟨g, _, none⟩) (Nat.le_trans hz1 hbg) _
        clear hw3 hs6 e0 e1 e3 e6 hstd
        have hgl := hr3.lt
        go_big_region
        have hv3 : Vec w3 w1.heap.size 47 encFile 7 (.slice (some ⟨g, 0, none⟩) (l.set (idxX l id) (fPages ((l[idxX l id]'hlt).pages - p) (l[idxX l id]'hlt))).length c2) (l.set (idxX l id) (fPages ((l[idxX l id]'hlt).pages - p) (l[idxX l id]'hlt))) := RowF.vec hr3 encFile_len hbg (by rw [hlx.out]; exact hlc) hcm HST.out
        have hv4 := (hv3.alloc (.cells #[.int .i64 (idXt l (l.length - 1) + 1), .int .i64 (l[idxX l id]'hlt).series, .string t, .int .i64 (l[idxX l id]'hlt).opened, .int .i64 0, .int .i64 0, .int .i64 p] 47)).drew
        have hx4 := (Blk.new w3 47 #[.int .i64 (idXt l (l.length - 1) + 1), .int .i64 (l[idxX l id]'hlt).series, .string t, .int .i64 (l[idxX l id]'hlt).opened, .int .i64 0, .int .i64 0, .int .i64 p]).drew
        have hB4 := (blw_alloc hB3 (.cells #[.int .i64 (idXt l (l.length - 1) + 1), .int .i64 (l[idxX l id]'hlt).series, .string t, .int .i64 (l[idxX l id]'hlt).opened, .int .i64 0, .int .i64 0, .int .i64 p] 47)).drew
        have hne : ¬ blkOf (some ⟨g, 0, none⟩) w3.heap.size := fun hS => by obtain ⟨q, hq⟩ := hS; simp at hq <;> omega
        have Hne := Lib.hid hne
        have hw34 : w3.heap.size < (w3.alloc (.cells #[.int .i64 (idXt l (l.length - 1) + 1), .int .i64 (l[idxX l id]'hlt).series, .string t, .int .i64 (l[idxX l id]'hlt).opened, .int .i64 0, .int .i64 0, .int .i64 p] 47)).drew.heap.size := hx4.lt
        generalize (w3.alloc (.cells #[.int .i64 (idXt l (l.length - 1) + 1), .int .i64 (l[idxX l id]'hlt).series, .string t, .int .i64 (l[idxX l id]'hlt).opened, .int .i64 0, .int .i64 0, .int .i64 p] 47)).drew = w4 at *
        have y0 := hx4.cell 0
        have y1 := hx4.cell 1
        have y2 := hx4.cell 2
        have y3 := hx4.cell 3
        have y4 := hx4.cell 4
        have y5 := hx4.cell 5
        have y6 := hx4.cell 6
        have Hv4 := Lib.hid hv4
        have hw14 : w1.heap.size ≤ w4.heap.size := by omega
        clear hr3 hv3 hv4 hs0 hs1 hs3 hr hsf hne
        go_wp2_with (at_builtin; refine wpList_app rfl (.tmp 66) (.tmp 68) 27 rfl 47 (.agg #[.int .i64 0, .int .i64 0, .string ⟨#[]⟩, .int .i64 0, .int .i64 0, .int .i64 0, .int .i64 0]) 7 64 Tryd.underlying27 (by kernel_rfl) rfl (by omega) encFile_len one_file (some ⟨g, 0, none⟩) c2 (l.set (idxX l id) (fPages ((l[idxX l id]'hlt).pages - p) (l[idxX l id]'hlt))) (by rw [hlx.out]; rfl) (Hv4.out.alloc _) (some ⟨w4.heap.size, 0, none⟩) 1 (w4.heap.size + 1) [(⟨idXt l (l.length - 1) + 1, (l[idxX l id]'hlt).series, t, (l[idxX l id]'hlt).opened, 0, 0, p⟩ : FileD)] rfl (Ls.one_at rfl rfl) hF1 hF2 (by simp; omega) ?_; intro A5 c5 w5 hv5 hw5)
        have hB5 : Below w.heap.size w w5 := (blw_alloc hB4 _).trans (hw5.below (blw_alloc hB4 _).size (fun q hq => by have := (Hv4.out.block hq).1; omega))
        refine (AreFiles_n _ _ _ ((l.set (idxX l id) (fPages ((l[idxX l id]'hlt).pages - p) (l[idxX l id]'hlt))) ++ [(⟨idXt l (l.length - 1) + 1, (l[idxX l id]'hlt).series, t, (l[idxX l id]'hlt).opened, 0, 0, p⟩ : FileD)]) _ (by simp) (hv5.ls encFile_len) (by rw [hla.out]; omega) hnx.out hv5.capOk).mono ?_
        rw [Hk.out]
        rintro e w6 ⟨rfl, hb6⟩
        have hx6 := ((hx4.alloc _).wr hw5 Hne.out).below hb6 ((hx4.alloc _).wr hw5 Hne.out).lt
        have y60 := hx6.cell 0
        clear y0 y1 y2 y3 y4 y5 y6
        go_wp2_with fail
        go_big_region
        go_wp2_with fail
        go_ret3
        exact ⟨A5, c5, by rw [Hv.out.1, Hv.out.2.1, Hv.out.2.2]; simp, by rw [Hv.out.2.1]; exact ((hv5.on hb6).drew).mono hz1, (blw hB5 hb6).drew⟩

set_option maxHeartbeats 8000000 in
theorem c_spec_SplitFile (A : Option Addr) (c : Nat) (l : List FileD) (id p : Int) (t : ByteArray) (w : World) (hl : Ls w w.heap.size encFile 7 A l) (hm : l.length ≤ 1048576) (hnm : ∀ f ∈ l, f.title.size ≤ 1048576) (hcap : l.length ≤ c) (hs : t.size ≤ 1048576) :
    Calls Tryd.prog 15 #[.slice A l.length c, .int .i64 id, .int .i64 p, .string t] w (RetSI w 47 encFile 7 (splL l id p t) (splI l id p t) (splB l id p t)) := by
  have hlen : (l.length : Int) ≤ 1048576 := by omega
  have hF := l5Find_any A c l id 0 w hl hm hnm hcap
  cases h1 : inSt l id 0
  · have Hv := Lib.hid (splB_no (p := p) (t := t) (.inl h1))
    have Hz := Lib.hid (show findXI l id 0 = -1 by rw [findXI_in (by omega), h1]; rfl)
    rw [Hz.out] at hF
    clear h1 hnm
    go_enter Tryd.func15, Tryd.ntmps15
    go_wp2_with fail
    refine hF.mono ?_
    rintro e w1 ⟨rfl, hb1⟩
    clear hF
    go_wp2_with fail
    go_ret3
    exact ⟨_, 0, by rw [Hv.out.1, Hv.out.2.1, Hv.out.2.2]; rfl, by rw [Hv.out.2.1]; exact Vec.empty _ _ _ (hb1).size, blw_alloc (hb1) _⟩
  · obtain ⟨q1, q2, q3⟩ := inSt_of h1
    have hlt := hasX_lt q2
    have hlast : l.length - 1 < l.length := by omega
    have Hz := Lib.hid (show findXI l id 0 = (idxX l id : Int) by rw [findXI_in (by omega), h1]; rfl)
    rw [Hz.out] at hF
    have hfl := file_parts (file_of q1 hlt)
    rw [pgAt_eq] at hfl
    obtain ⟨f1, f2, f3, f4, f5, f6, f7, f8, f9, f10⟩ := hfl
    have hl10 := (files_all q1).1
    have hid1 := files_id q1 hlast
    have hA := l1In5_any p 1 (pgAt l (idxX l id) - 1)
    clear f5 f10
    cases hp : inB p 1 (pgAt l (idxX l id) - 1)
    · rw [hp] at hA
      have Hv := Lib.hid (splB_no (t := t) (.inr hp))
      clear hp h1 q1 q2 q3 hnm
      go_enter Tryd.func15, Tryd.ntmps15
      go_wp2_with fail
      refine hF.mono ?_
      rintro e w1 ⟨rfl, hb1⟩
      obtain ⟨b, off, rfl, hbb, hc0, hc1, hc2, hc3, hc4, hc5, hc6⟩ := ((hl.below hb1).more hb1.size).at_File hlt
      obtain ⟨b', off', hbo, _, hd0, hd1, hd2, hd3, hd4, hd5, hd6⟩ := ((hl.below hb1).more hb1.size).at_File hlast
      cases hbo
      rw [idXt_eq] at hd0
      rw [pgAt_eq] at hc6
      have hi1 : (idxX l id : Int) < (l.length : Int) := by omega
      have hi2 : 1 ≤ (l.length : Int) := by omega
      have hi3 : (l.length : Int) - 1 < (l.length : Int) := by omega
      clear hF hd1 hd2 hd3 hd4 hd5 hd6
      go_wp2_with fail
      refine (hA _).mono ?_
      rintro e w1 ⟨rfl, rfl⟩
      go_wp2_with fail
      go_ret3
      exact ⟨_, 0, by rw [Hv.out.1, Hv.out.2.1, Hv.out.2.2]; rfl, by rw [Hv.out.2.1]; exact Vec.empty _ _ _ (hb1).size, blw_alloc (hb1) _⟩
    · rw [hp] at hA
      have hpq := inB_prop hp
      have hnx := Lib.hid (files_more (x := (⟨idXt l (l.length - 1) + 1, (l[idxX l id]'hlt).series, t, (l[idxX l id]'hlt).opened, 0, 0, p⟩ : FileD)) (files_name (i := idxX l id) (x := (fPages ((l[idxX l id]'hlt).pages - p) (l[idxX l id]'hlt))) hnm (show ((fPages ((l[idxX l id]'hlt).pages - p) (l[idxX l id]'hlt))).title.size ≤ 1048576 from hnm (l[idxX l id]'hlt) (List.getElem_mem hlt))) hs)
      have hlx := Lib.hid (show (l.set (idxX l id) (fPages ((l[idxX l id]'hlt).pages - p) (l[idxX l id]'hlt))).length = l.length from List.length_set)
      have hF1 : (l.set (idxX l id) (fPages ((l[idxX l id]'hlt).pages - p) (l[idxX l id]'hlt))).length + [(⟨idXt l (l.length - 1) + 1, (l[idxX l id]'hlt).series, t, (l[idxX l id]'hlt).opened, 0, 0, p⟩ : FileD)].length ≤ maxLen := by unfold maxLen; rw [hlx.out]; simp; omega
      have hF2 : ((l.set (idxX l id) (fPages ((l[idxX l id]'hlt).pages - p) (l[idxX l id]'hlt))).length + [(⟨idXt l (l.length - 1) + 1, (l[idxX l id]'hlt).series, t, (l[idxX l id]'hlt).opened, 0, 0, p⟩ : FileD)].length) * 64 ≤ 140737488355328 := by rw [hlx.out]; simp; omega
      have hla := Lib.hid (show ((l.set (idxX l id) (fPages ((l[idxX l id]'hlt).pages - p) (l[idxX l id]'hlt))) ++ [(⟨idXt l (l.length - 1) + 1, (l[idxX l id]'hlt).series, t, (l[idxX l id]'hlt).opened, 0, 0, p⟩ : FileD)]).length = l.length + 1 by rw [List.length_append, hlx.out]; rfl)
      cases hk : filesB ((l.set (idxX l id) (fPages ((l[idxX l id]'hlt).pages - p) (l[idxX l id]'hlt))) ++ [(⟨idXt l (l.length - 1) + 1, (l[idxX l id]'hlt).series, t, (l[idxX l id]'hlt).opened, 0, 0, p⟩ : FileD)])
      · have Hv := Lib.hid (splB_bad hlt hk)
        have Hk := Lib.hid hk
        clear hk hp h1 q1 q2 q3 hnm
        go_enter Tryd.func15, Tryd.ntmps15
        go_wp2_with fail
        refine hF.mono ?_
        rintro e w1 ⟨rfl, hb1⟩
        obtain ⟨b, off, rfl, hbb, hc0, hc1, hc2, hc3, hc4, hc5, hc6⟩ := ((hl.below hb1).more hb1.size).at_File hlt
        obtain ⟨b', off', hbo, _, hd0, hd1, hd2, hd3, hd4, hd5, hd6⟩ := ((hl.below hb1).more hb1.size).at_File hlast
        cases hbo
        rw [idXt_eq] at hd0
        rw [pgAt_eq] at hc6
        have hi1 : (idxX l id : Int) < (l.length : Int) := by omega
        have hi2 : 1 ≤ (l.length : Int) := by omega
        have hi3 : (l.length : Int) - 1 < (l.length : Int) := by omega
        clear hF hd1 hd2 hd3 hd4 hd5 hd6
        go_wp2_with fail
        refine (hA _).mono ?_
        rintro e w1 ⟨rfl, rfl⟩
        clear hA
        have hl1 := (hl.below hb1).more hb1.size
        have hE1 : ([] : List FileD).length + l.length ≤ maxLen := by unfold maxLen; simp; omega
        have hE2 : (([] : List FileD).length + l.length) * 64 ≤ 140737488355328 := by simp; omega
        have hBA := blw_alloc (blw_alloc hb1 (.cells #[.int .i64 (l[idxX l id]'hlt).id, .int .i64 (l[idxX l id]'hlt).series, .string (l[idxX l id]'hlt).title, .int .i64 (l[idxX l id]'hlt).opened, .int .i64 (l[idxX l id]'hlt).closed, .int .i64 (l[idxX l id]'hlt).state, .int .i64 (pgAt l (idxX l id) - p)] 47)) (.cells #[] 47)
        have hmk : Vec ((w1.alloc (.cells #[.int .i64 (l[idxX l id]'hlt).id, .int .i64 (l[idxX l id]'hlt).series, .string (l[idxX l id]'hlt).title, .int .i64 (l[idxX l id]'hlt).opened, .int .i64 (l[idxX l id]'hlt).closed, .int .i64 (l[idxX l id]'hlt).state, .int .i64 (pgAt l (idxX l id) - p)] 47)).alloc (.cells #[] 47)) (w1.heap.size + 1) 47 encFile 7 (.slice (some ⟨w1.heap.size + 1, 0, none⟩) 0 0) ([] : List FileD) := by
          have h := Vec.empty (en := encFile) (sz := 7) (w1.alloc (.cells #[.int .i64 (l[idxX l id]'hlt).id, .int .i64 (l[idxX l id]'hlt).series, .string (l[idxX l id]'hlt).title, .int .i64 (l[idxX l id]'hlt).opened, .int .i64 (l[idxX l id]'hlt).closed, .int .i64 (l[idxX l id]'hlt).state, .int .i64 (pgAt l (idxX l id) - p)] 47)) (w1.heap.size + 1) 47 (by simp)
          rwa [World.size_alloc] at h
        have hxA := (Blk.new w1 47 #[.int .i64 (l[idxX l id]'hlt).id, .int .i64 (l[idxX l id]'hlt).series, .string (l[idxX l id]'hlt).title, .int .i64 (l[idxX l id]'hlt).opened, .int .i64 (l[idxX l id]'hlt).closed, .int .i64 (l[idxX l id]'hlt).state, .int .i64 (pgAt l (idxX l id) - p)]).alloc (.cells #[] 47)
        have hlA := (hl1.alloc (Nat.le_refl _) (.cells #[.int .i64 (l[idxX l id]'hlt).id, .int .i64 (l[idxX l id]'hlt).series, .string (l[idxX l id]'hlt).title, .int .i64 (l[idxX l id]'hlt).opened, .int .i64 (l[idxX l id]'hlt).closed, .int .i64 (l[idxX l id]'hlt).state, .int .i64 (pgAt l (idxX l id) - p)] 47)).alloc (by simp) (.cells #[] 47)
        have hG : ∀ (g c2 : Nat) (W : World) (f : Nat → Value), RowF W g 47 (c2 * 7) f → w1.heap.size + 1 ≤ g → l.length ≤ c2 → c2 ≤ maxLen → Std encFile 7 l f →
            Hid (Vec (((((((W.setCell ⟨g, idxX l id * 7, none⟩ (.int .i64 (l[idxX l id]'hlt).id)).setCell ⟨g, idxX l id * 7 + 1, none⟩ (.int .i64 (l[idxX l id]'hlt).series)).setCell ⟨g, idxX l id * 7 + 2, none⟩ (.string (l[idxX l id]'hlt).title)).setCell ⟨g, idxX l id * 7 + 3, none⟩ (.int .i64 (l[idxX l id]'hlt).opened)).setCell ⟨g, idxX l id * 7 + 4, none⟩ (.int .i64 (l[idxX l id]'hlt).closed)).setCell ⟨g, idxX l id * 7 + 5, none⟩ (.int .i64 (l[idxX l id]'hlt).state)).setCell ⟨g, idxX l id * 7 + 6, none⟩ (.int .i64 (pgAt l (idxX l id) - p))) (w1.heap.size + 1) 47 encFile 7 (.slice (some ⟨g, 0, none⟩) (l.set (idxX l id) (fPages ((l[idxX l id]'hlt).pages - p) (l[idxX l id]'hlt))).length c2) (l.set (idxX l id) (fPages ((l[idxX l id]'hlt).pages - p) (l[idxX l id]'hlt)))) := fun g c2 W f hr hbg hlc hcm hstd => by
          have h := RowF.vec (((((((hr.put _ _).put _ _).put _ _).put _ _).put _ _).put _ _).put _ _) encFile_len hbg (by rw [hlx.out]; exact hlc) hcm (Std.putFileQ hstd (idxX l id) (fPages ((l[idxX l id]'hlt).pages - p) (l[idxX l id]'hlt)))
          have e : (l[idxX l id]'hlt).pages = pgAt l (idxX l id) := pgAt_eq hlt
          rw [Hid, ← e]
          exact h
        have HGG := Lib.hid hG
        clear hG
        have hz1 := hb1.size
        have hzp : (0 : Int) ≤ pgAt l (idxX l id) - p := by omega
        go_wp2_with (at_builtin; revert hmk)
        intro hmk
        refine wpList_app rfl (.tmp 49) (.tmp 50) 27 rfl 47 (.agg #[.int .i64 0, .int .i64 0, .string ⟨#[]⟩, .int .i64 0, .int .i64 0, .int .i64 0, .int .i64 0]) 7 64 Tryd.underlying27 (by kernel_rfl) rfl (by omega) encFile_len one_file (some ⟨w1.heap.size + 1, 0, none⟩) 0 ([] : List FileD) rfl hmk (some ⟨b, off, none⟩) c w1.heap.size l rfl hlA hE1 hE2 (by simp <;> omega) ?_; intro A2 c2 w2 hv2 hw2; replace hv2 : Vec w2 (w1.heap.size + 1) 47 encFile 7 (.slice A2 l.length c2) l := hv2; obtain ⟨g, rfl⟩ := hv2.some (by omega); obtain ⟨f, hr, hbg, hlc, hcm, hstd⟩ := hv2.rowf encFile_len; have HG := HGG.out g c2 w2 f hr hbg hlc hcm hstd; clear hstd; have hx2 := hxA.wr hw2 (fun hS => by obtain ⟨q, hq⟩ := hS; simp at hq); have hne : ¬ w1.heap.size = g := (by omega); have hne2 : ¬ g = w1.heap.size := (by omega); have hgw : w.heap.size ≤ g := (by omega); have hgl := hr.lt; have hsf := hr.frozen; have hs0 := hr.cell (i := idxX l id * 7) (by omega); have y0 := hx2.cell 0; have hs1 := hr.cell (i := idxX l id * 7 + 1) (by omega); have y1 := hx2.cell 1; have hs2 := hr.cell (i := idxX l id * 7 + 2) (by omega); have y2 := hx2.cell 2; have hs3 := hr.cell (i := idxX l id * 7 + 3) (by omega); have y3 := hx2.cell 3; have hs4 := hr.cell (i := idxX l id * 7 + 4) (by omega); have y4 := hx2.cell 4; have hs5 := hr.cell (i := idxX l id * 7 + 5) (by omega); have y5 := hx2.cell 5; have hs6 := hr.cell (i := idxX l id * 7 + 6) (by omega); have y6 := hx2.cell 6; have Hx2 := Lib.hid hx2; have HB2 := Lib.hid (hBA.trans (hw2.below hBA.size (fun q hq => by obtain ⟨o, ho⟩ := hq; simp at ho; omega))); have hz2 := HB2.out.size; have hz12 := hw2.size; clear hr hv2 hx2
        have HB3 : Below w.heap.size w _ := (((((((HB2.out.setCell (p := ⟨g, idxX l id * 7, none⟩) hgw (.int .i64 (l[idxX l id]'hlt).id)).setCell (p := ⟨g, idxX l id * 7 + 1, none⟩) hgw (.int .i64 (l[idxX l id]'hlt).series)).setCell (p := ⟨g, idxX l id * 7 + 2, none⟩) hgw (.string (l[idxX l id]'hlt).title)).setCell (p := ⟨g, idxX l id * 7 + 3, none⟩) hgw (.int .i64 (l[idxX l id]'hlt).opened)).setCell (p := ⟨g, idxX l id * 7 + 4, none⟩) hgw (.int .i64 (l[idxX l id]'hlt).closed)).setCell (p := ⟨g, idxX l id * 7 + 5, none⟩) hgw (.int .i64 (l[idxX l id]'hlt).state)).setCell (p := ⟨g, idxX l id * 7 + 6, none⟩) hgw (.int .i64 (pgAt l (idxX l id) - p)))
        have HB3' := Lib.hid HB3
        clear HB3
        go_wp2_with (at_builtin; revert HG)
        intro HG
        refine wpList_app rfl (.tmp 56) (.tmp 65) 27 rfl 47 (.agg #[.int .i64 0, .int .i64 0, .string ⟨#[]⟩, .int .i64 0, .int .i64 0, .int .i64 0, .int .i64 0]) 7 64 Tryd.underlying27 (by kernel_rfl) rfl (by omega) encFile_len one_file (some ⟨g, 0, none⟩) c2 (l.set (idxX l id) (fPages ((l[idxX l id]'hlt).pages - p) (l[idxX l id]'hlt))) (by rw [hlx.out]; rfl) (HG.out.alloc _) (some ⟨_, 0, none⟩) 1 (_ + 1) [(⟨idXt l (l.length - 1) + 1, (l[idxX l id]'hlt).series, t, (l[idxX l id]'hlt).opened, 0, 0, p⟩ : FileD)] rfl (Ls.one_at (by simp <;> rfl) rfl) hF1 hF2 (by simp <;> omega) ?_
        intro A5 c5 w5 hv5 hw5
        have hB5 : Below w.heap.size w w5 := (blw_alloc HB3'.out _).trans (hw5.below (blw_alloc HB3'.out _).size (fun q hq => by have := (HG.out.block hq).1; omega))
        clear hne hne2 hsf hs0 hs1 hs2 hs3 hs4 hs5 hs6 y0 y1 y2 y3 y4 y5 y6
        go_wp2_with fail
        refine (l5Good_n _ _ _ ((l.set (idxX l id) (fPages ((l[idxX l id]'hlt).pages - p) (l[idxX l id]'hlt))) ++ [(⟨idXt l (l.length - 1) + 1, (l[idxX l id]'hlt).series, t, (l[idxX l id]'hlt).opened, 0, 0, p⟩ : FileD)]) _ (by simp) (hv5.ls encFile_len) (by rw [hla.out]; omega) hnx.out hv5.capOk).mono ?_
        rw [Hk.out]
        rintro e w6 ⟨rfl, hb6⟩
        have hB6 := blw hB5 hb6
        go_wp2_with fail
        go_ret3
        exact ⟨_, 0, by rw [Hv.out.1, Hv.out.2.1, Hv.out.2.2]; rfl, by rw [Hv.out.2.1]; exact Vec.empty _ _ _ hB6.size, blw_alloc hB6 _⟩
      · have Hv := Lib.hid (splB_yes hlt h1 hp hk)
        have Hk := Lib.hid hk
        clear hk hp h1 q1 q2 q3 hnm
        go_enter Tryd.func15, Tryd.ntmps15
        go_wp2_with fail
        refine hF.mono ?_
        rintro e w1 ⟨rfl, hb1⟩
        obtain ⟨b, off, rfl, hbb, hc0, hc1, hc2, hc3, hc4, hc5, hc6⟩ := ((hl.below hb1).more hb1.size).at_File hlt
        obtain ⟨b', off', hbo, _, hd0, hd1, hd2, hd3, hd4, hd5, hd6⟩ := ((hl.below hb1).more hb1.size).at_File hlast
        cases hbo
        rw [idXt_eq] at hd0
        rw [pgAt_eq] at hc6
        have hi1 : (idxX l id : Int) < (l.length : Int) := by omega
        have hi2 : 1 ≤ (l.length : Int) := by omega
        have hi3 : (l.length : Int) - 1 < (l.length : Int) := by omega
        clear hF hd1 hd2 hd3 hd4 hd5 hd6
        go_wp2_with fail
        refine (hA _).mono ?_
        rintro e w1 ⟨rfl, rfl⟩
        clear hA
        have hl1 := (hl.below hb1).more hb1.size
        have hE1 : ([] : List FileD).length + l.length ≤ maxLen := by unfold maxLen; simp; omega
        have hE2 : (([] : List FileD).length + l.length) * 64 ≤ 140737488355328 := by simp; omega
        have hBA := blw_alloc (blw_alloc hb1 (.cells #[.int .i64 (l[idxX l id]'hlt).id, .int .i64 (l[idxX l id]'hlt).series, .string (l[idxX l id]'hlt).title, .int .i64 (l[idxX l id]'hlt).opened, .int .i64 (l[idxX l id]'hlt).closed, .int .i64 (l[idxX l id]'hlt).state, .int .i64 (pgAt l (idxX l id) - p)] 47)) (.cells #[] 47)
        have hmk : Vec ((w1.alloc (.cells #[.int .i64 (l[idxX l id]'hlt).id, .int .i64 (l[idxX l id]'hlt).series, .string (l[idxX l id]'hlt).title, .int .i64 (l[idxX l id]'hlt).opened, .int .i64 (l[idxX l id]'hlt).closed, .int .i64 (l[idxX l id]'hlt).state, .int .i64 (pgAt l (idxX l id) - p)] 47)).alloc (.cells #[] 47)) (w1.heap.size + 1) 47 encFile 7 (.slice (some ⟨w1.heap.size + 1, 0, none⟩) 0 0) ([] : List FileD) := by
          have h := Vec.empty (en := encFile) (sz := 7) (w1.alloc (.cells #[.int .i64 (l[idxX l id]'hlt).id, .int .i64 (l[idxX l id]'hlt).series, .string (l[idxX l id]'hlt).title, .int .i64 (l[idxX l id]'hlt).opened, .int .i64 (l[idxX l id]'hlt).closed, .int .i64 (l[idxX l id]'hlt).state, .int .i64 (pgAt l (idxX l id) - p)] 47)) (w1.heap.size + 1) 47 (by simp)
          rwa [World.size_alloc] at h
        have hxA := (Blk.new w1 47 #[.int .i64 (l[idxX l id]'hlt).id, .int .i64 (l[idxX l id]'hlt).series, .string (l[idxX l id]'hlt).title, .int .i64 (l[idxX l id]'hlt).opened, .int .i64 (l[idxX l id]'hlt).closed, .int .i64 (l[idxX l id]'hlt).state, .int .i64 (pgAt l (idxX l id) - p)]).alloc (.cells #[] 47)
        have hlA := (hl1.alloc (Nat.le_refl _) (.cells #[.int .i64 (l[idxX l id]'hlt).id, .int .i64 (l[idxX l id]'hlt).series, .string (l[idxX l id]'hlt).title, .int .i64 (l[idxX l id]'hlt).opened, .int .i64 (l[idxX l id]'hlt).closed, .int .i64 (l[idxX l id]'hlt).state, .int .i64 (pgAt l (idxX l id) - p)] 47)).alloc (by simp) (.cells #[] 47)
        have hG : ∀ (g c2 : Nat) (W : World) (f : Nat → Value), RowF W g 47 (c2 * 7) f → w1.heap.size + 1 ≤ g → l.length ≤ c2 → c2 ≤ maxLen → Std encFile 7 l f →
            Hid (Vec (((((((W.setCell ⟨g, idxX l id * 7, none⟩ (.int .i64 (l[idxX l id]'hlt).id)).setCell ⟨g, idxX l id * 7 + 1, none⟩ (.int .i64 (l[idxX l id]'hlt).series)).setCell ⟨g, idxX l id * 7 + 2, none⟩ (.string (l[idxX l id]'hlt).title)).setCell ⟨g, idxX l id * 7 + 3, none⟩ (.int .i64 (l[idxX l id]'hlt).opened)).setCell ⟨g, idxX l id * 7 + 4, none⟩ (.int .i64 (l[idxX l id]'hlt).closed)).setCell ⟨g, idxX l id * 7 + 5, none⟩ (.int .i64 (l[idxX l id]'hlt).state)).setCell ⟨g, idxX l id * 7 + 6, none⟩ (.int .i64 (pgAt l (idxX l id) - p))) (w1.heap.size + 1) 47 encFile 7 (.slice (some ⟨g, 0, none⟩) (l.set (idxX l id) (fPages ((l[idxX l id]'hlt).pages - p) (l[idxX l id]'hlt))).length c2) (l.set (idxX l id) (fPages ((l[idxX l id]'hlt).pages - p) (l[idxX l id]'hlt)))) := fun g c2 W f hr hbg hlc hcm hstd => by
          have h := RowF.vec (((((((hr.put _ _).put _ _).put _ _).put _ _).put _ _).put _ _).put _ _) encFile_len hbg (by rw [hlx.out]; exact hlc) hcm (Std.putFileQ hstd (idxX l id) (fPages ((l[idxX l id]'hlt).pages - p) (l[idxX l id]'hlt)))
          have e : (l[idxX l id]'hlt).pages = pgAt l (idxX l id) := pgAt_eq hlt
          rw [Hid, ← e]
          exact h
        have HGG := Lib.hid hG
        clear hG
        have hz1 := hb1.size
        have hzp : (0 : Int) ≤ pgAt l (idxX l id) - p := by omega
        go_wp2_with (at_builtin; revert hmk)
        intro hmk
        refine wpList_app rfl (.tmp 49) (.tmp 50) 27 rfl 47 (.agg #[.int .i64 0, .int .i64 0, .string ⟨#[]⟩, .int .i64 0, .int .i64 0, .int .i64 0, .int .i64 0]) 7 64 Tryd.underlying27 (by kernel_rfl) rfl (by omega) encFile_len one_file (some ⟨w1.heap.size + 1, 0, none⟩) 0 ([] : List FileD) rfl hmk (some ⟨b, off, none⟩) c w1.heap.size l rfl hlA hE1 hE2 (by simp <;> omega) ?_; intro A2 c2 w2 hv2 hw2; replace hv2 : Vec w2 (w1.heap.size + 1) 47 encFile 7 (.slice A2 l.length c2) l := hv2; obtain ⟨g, rfl⟩ := hv2.some (by omega); obtain ⟨f, hr, hbg, hlc, hcm, hstd⟩ := hv2.rowf encFile_len; have HG := HGG.out g c2 w2 f hr hbg hlc hcm hstd; clear hstd; have hx2 := hxA.wr hw2 (fun hS => by obtain ⟨q, hq⟩ := hS; simp at hq); have hne : ¬ w1.heap.size = g := (by omega); have hne2 : ¬ g = w1.heap.size := (by omega); have hgw : w.heap.size ≤ g := (by omega); have hgl := hr.lt; have hsf := hr.frozen; have hs0 := hr.cell (i := idxX l id * 7) (by omega); have y0 := hx2.cell 0; have hs1 := hr.cell (i := idxX l id * 7 + 1) (by omega); have y1 := hx2.cell 1; have hs2 := hr.cell (i := idxX l id * 7 + 2) (by omega); have y2 := hx2.cell 2; have hs3 := hr.cell (i := idxX l id * 7 + 3) (by omega); have y3 := hx2.cell 3; have hs4 := hr.cell (i := idxX l id * 7 + 4) (by omega); have y4 := hx2.cell 4; have hs5 := hr.cell (i := idxX l id * 7 + 5) (by omega); have y5 := hx2.cell 5; have hs6 := hr.cell (i := idxX l id * 7 + 6) (by omega); have y6 := hx2.cell 6; have Hx2 := Lib.hid hx2; have HB2 := Lib.hid (hBA.trans (hw2.below hBA.size (fun q hq => by obtain ⟨o, ho⟩ := hq; simp at ho; omega))); have hz2 := HB2.out.size; have hz12 := hw2.size; clear hr hv2 hx2
        have HB3 : Below w.heap.size w _ := (((((((HB2.out.setCell (p := ⟨g, idxX l id * 7, none⟩) hgw (.int .i64 (l[idxX l id]'hlt).id)).setCell (p := ⟨g, idxX l id * 7 + 1, none⟩) hgw (.int .i64 (l[idxX l id]'hlt).series)).setCell (p := ⟨g, idxX l id * 7 + 2, none⟩) hgw (.string (l[idxX l id]'hlt).title)).setCell (p := ⟨g, idxX l id * 7 + 3, none⟩) hgw (.int .i64 (l[idxX l id]'hlt).opened)).setCell (p := ⟨g, idxX l id * 7 + 4, none⟩) hgw (.int .i64 (l[idxX l id]'hlt).closed)).setCell (p := ⟨g, idxX l id * 7 + 5, none⟩) hgw (.int .i64 (l[idxX l id]'hlt).state)).setCell (p := ⟨g, idxX l id * 7 + 6, none⟩) hgw (.int .i64 (pgAt l (idxX l id) - p)))
        have HB3' := Lib.hid HB3
        clear HB3
        go_wp2_with (at_builtin; revert HG)
        intro HG
        refine wpList_app rfl (.tmp 56) (.tmp 65) 27 rfl 47 (.agg #[.int .i64 0, .int .i64 0, .string ⟨#[]⟩, .int .i64 0, .int .i64 0, .int .i64 0, .int .i64 0]) 7 64 Tryd.underlying27 (by kernel_rfl) rfl (by omega) encFile_len one_file (some ⟨g, 0, none⟩) c2 (l.set (idxX l id) (fPages ((l[idxX l id]'hlt).pages - p) (l[idxX l id]'hlt))) (by rw [hlx.out]; rfl) (HG.out.alloc _) (some ⟨_, 0, none⟩) 1 (_ + 1) [(⟨idXt l (l.length - 1) + 1, (l[idxX l id]'hlt).series, t, (l[idxX l id]'hlt).opened, 0, 0, p⟩ : FileD)] rfl (Ls.one_at (by simp <;> rfl) rfl) hF1 hF2 (by simp <;> omega) ?_
        intro A5 c5 w5 hv5 hw5
        have hB5 : Below w.heap.size w w5 := (blw_alloc HB3'.out _).trans (hw5.below (blw_alloc HB3'.out _).size (fun q hq => by have := (HG.out.block hq).1; omega))
        clear hne hne2 hsf hs0 hs1 hs2 hs3 hs4 hs5 hs6 y0 y1 y2 y3 y4 y5 y6
        go_wp2_with fail
        refine (l5Good_n _ _ _ ((l.set (idxX l id) (fPages ((l[idxX l id]'hlt).pages - p) (l[idxX l id]'hlt))) ++ [(⟨idXt l (l.length - 1) + 1, (l[idxX l id]'hlt).series, t, (l[idxX l id]'hlt).opened, 0, 0, p⟩ : FileD)]) _ (by simp) (hv5.ls encFile_len) (by rw [hla.out]; omega) hnx.out hv5.capOk).mono ?_
        rw [Hk.out]
        rintro e w6 ⟨rfl, hb6⟩
        have hB6 := blw hB5 hb6
        go_wp2_with fail
        go_ret3
        exact ⟨A5, c5, by rw [Hv.out.1, Hv.out.2.1, Hv.out.2.2]; simp, by rw [Hv.out.2.1]; exact (hv5.on hb6).mono (by omega), hB6⟩

end Go.Proofs.YtlhihdcdbclcbaaDoor
