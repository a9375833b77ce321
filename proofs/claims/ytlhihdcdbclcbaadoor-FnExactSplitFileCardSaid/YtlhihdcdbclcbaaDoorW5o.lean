/- Contracts: CloseFile, ReopenFile, LendFile, AddPages. -/
import Derived.Test.YtlhihdcdbclcbaaDoorW5f
namespace Go.Proofs.YtlhihdcdbclcbaaDoor
set_option linter.unusedVariables false
set_option linter.unusedSimpArgs false
open Go.RowKit
attribute [local go_sem] Aft.cell

def opB (l : List FileD) (id st : Int) (pre : Bool) (F : FileD → FileD) : Bool := inSt l id st && (pre && filesB (setX l id F))
def opL (l : List FileD) (id st : Int) (pre : Bool) (F : FileD → FileD) : List FileD := keepL (opB l id st pre F) (setX l id F)
theorem opL_le (l : List FileD) (id st : Int) (pre : Bool) (F : FileD → FileD) : (opL l id st pre F).length ≤ l.length := keepL_le (by rw [setX_len]; omega)
theorem opB_no {l : List FileD} {id st : Int} {pre : Bool} (h : inSt l id st = false ∨ pre = false) (F : FileD → FileD) : opB l id st pre F = false ∧ opL l id st pre F = [] := by
  have h1 : opB l id st pre F = false := by
    unfold opB
    rcases h with h | h <;> simp [h]
  exact ⟨h1, by unfold opL; rw [h1]; rfl⟩
theorem opB_yes {l : List FileD} {id st : Int} {pre : Bool} (h1 : inSt l id st = true) (hlt : idxX l id < l.length) (h2 : pre = true) (F : FileD → FileD) :
    opB l id st pre F = filesB (l.set (idxX l id) (F (l[idxX l id]'hlt))) ∧ opL l id st pre F = keepL (filesB (l.set (idxX l id) (F (l[idxX l id]'hlt)))) (l.set (idxX l id) (F (l[idxX l id]'hlt))) := by
  have h3 : opB l id st pre F = filesB (setX l id F) := by unfold opB; rw [h1, h2]; simp
  refine ⟨by rw [h3, setX_eq (inSt_of h1).2.1], ?_⟩
  unfold opL
  rw [h3, setX_eq (inSt_of h1).2.1]
/-- the changed file is valid -/
theorem fClose_ok {l : List FileD} {id : Int} (h : inSt l id 0 = true) (hlt : idxX l id < l.length) (d : Int) :
    filesB (l.set (idxX l id) (fClose d (l[idxX l id]'hlt))) = (inB (l[idxX l id]'hlt).opened 0 20000 && inB d 0 20000 && decide ((l[idxX l id]'hlt).opened ≤ d)) := by
  obtain ⟨h1, h2, h3⟩ := inSt_of h
  rw [filesB_set (x := fClose d (l[idxX l id]'hlt)) h1 hlt rfl rfl rfl]
  have hf := file_of h1 hlt
  simp only [fileB, Bool.and_eq_true] at hf
  obtain ⟨⟨⟨⟨⟨e1, e2⟩, e3⟩, e4⟩, e5⟩, e6⟩ := hf
  unfold fileB fClose
  simp only [e1, e2, e3, e4, e5]
  simp [inB]
theorem fReopen_ok {l : List FileD} {id : Int} (h : inSt l id 1 = true) (hlt : idxX l id < l.length) :
    filesB (l.set (idxX l id) (fReopen (l[idxX l id]'hlt))) = true := by
  obtain ⟨h1, h2, h3⟩ := inSt_of h
  rw [filesB_set (x := fReopen (l[idxX l id]'hlt)) h1 hlt rfl rfl rfl]
  have hf := file_of h1 hlt
  simp only [fileB, Bool.and_eq_true] at hf
  obtain ⟨⟨⟨⟨⟨e1, e2⟩, e3⟩, e4⟩, e5⟩, e6⟩ := hf
  unfold fileB fReopen
  simp only [e1, e2, e3, e4, e5]
  simp
theorem fState_ok {l : List FileD} {id st t : Int} (h : inSt l id st = true) (hlt : idxX l id < l.length) (hs : st = 1 ∨ st = 2) (ht : t = 1 ∨ t = 2) :
    filesB (l.set (idxX l id) (fState t (l[idxX l id]'hlt))) = true := by
  obtain ⟨h1, h2, h3⟩ := inSt_of h
  rw [filesB_set (x := fState t (l[idxX l id]'hlt)) h1 hlt rfl rfl rfl]
  have hf := file_of h1 hlt
  rw [← stAt_eq hlt] at h3
  simp only [fileB, Bool.and_eq_true] at hf
  obtain ⟨⟨⟨⟨⟨e1, e2⟩, e3⟩, e4⟩, e5⟩, e6⟩ := hf
  rw [h3] at e6
  unfold fileB fState
  simp only [e1, e2, e3, e4, e5]
  rcases hs with rfl | rfl <;> rcases ht with rfl | rfl <;> simp [inB] at e6 ⊢ <;> omega
theorem inB_prop {x a b : Int} (h : inB x a b = true) : a ≤ x ∧ x ≤ b := by simp [inB] at h; exact h
def fAddP (p : Int) (f : FileD) : FileD := ⟨f.id, f.series, f.title, f.opened, f.closed, f.state, f.pages + p⟩
def lendA (back : Bool) : Int := if back then 2 else 1
def lendZ (back : Bool) : Int := if back then 1 else 2

def closeB (l : List FileD) (id : Int) (d : Int) : Bool := opB l id 0 (decide (1 ≤ d)) (fClose d)
def closeL (l : List FileD) (id : Int) (d : Int) : List FileD := opL l id 0 (decide (1 ≤ d)) (fClose d)
theorem closeL_le (l : List FileD) (id : Int) (d : Int) : (closeL l id d).length ≤ l.length := opL_le _ _ _ _ _



def reopB (l : List FileD) (id : Int)  : Bool := opB l id 1 (true) fReopen
def reopL (l : List FileD) (id : Int)  : List FileD := opL l id 1 (true) fReopen
theorem reopL_le (l : List FileD) (id : Int)  : (reopL l id).length ≤ l.length := opL_le _ _ _ _ _



def lendB (l : List FileD) (id : Int) (back : Bool) : Bool := opB l id (lendA back) (true) (fState (lendZ back))
def lendL (l : List FileD) (id : Int) (back : Bool) : List FileD := opL l id (lendA back) (true) (fState (lendZ back))
theorem lendL_le (l : List FileD) (id : Int) (back : Bool) : (lendL l id back).length ≤ l.length := opL_le _ _ _ _ _



def addPB (l : List FileD) (id : Int) (p : Int) : Bool := opB l id 0 (inB p 1 500) (fAddP p)
def addPL (l : List FileD) (id : Int) (p : Int) : List FileD := opL l id 0 (inB p 1 500) (fAddP p)
theorem addPL_le (l : List FileD) (id : Int) (p : Int) : (addPL l id p).length ≤ l.length := opL_le _ _ _ _ _



end Go.Proofs.YtlhihdcdbclcbaaDoor
