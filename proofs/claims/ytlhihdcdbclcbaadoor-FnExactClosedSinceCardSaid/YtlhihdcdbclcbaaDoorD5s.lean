/- Plain words on changes of files. -/
import Derived.Test.YtlhihdcdbclcbaaDoorD5
namespace Go.Proofs.YtlhihdcdbclcbaaDoor
set_option linter.unusedVariables false
set_option linter.unusedSimpArgs false

/-- the place of the file with an Id that is in a state, any state for -1; or -1 -/
def findXI (l : List FileD) (id st : Int) : Int := if filesB l && hasX l id && (decide (st < 0) || (stAt l (idxX l id) == st)) then (idxX l id : Int) else -1
theorem findXI_bad {l : List FileD} (h : filesB l = false) (id st : Int) : findXI l id st = -1 := by simp [findXI, h]
theorem findXI_at {l : List FileD} (h : filesB l = true) {id st : Int} {k : Nat} (hk : k < l.length) (he : l[k].id = id) (hs : (decide (st < 0) || (l[k].state == st)) = true) : findXI l id st = (k : Int) := by
  have h1 : idxX l id = k := by rw [← he]; exact idxX_get h hk
  have h2 : hasX l id = true := by unfold hasX; rw [h1]; simpa using hk
  unfold findXI
  rw [h, h2, h1, ← stAt_eq hk, hs]
  rfl
theorem findXI_none {l : List FileD} {id st : Int} (hb : ∀ j (hj : j < l.length), j < l.length → ((l[j].id == id) && (decide (st < 0) || (l[j].state == st))) = false) : findXI l id st = -1 := by
  unfold findXI
  rw [if_neg]
  intro h
  simp only [Bool.and_eq_true] at h
  have hlt := hasX_lt h.1.2
  have h2 := hb _ hlt hlt
  rw [stAt_eq hlt, idxX_id h.1.2, h.2] at h2
  simp at h2
theorem findXI_in {l : List FileD} {id st : Int} (hst : ¬ st < 0) : findXI l id st = if inSt l id st then (idxX l id : Int) else -1 := by
  have : decide (st < 0) = false := by simpa using hst
  simp [findXI, inSt, this]
theorem inSt_of {l : List FileD} {id st : Int} (h : inSt l id st = true) : filesB l = true ∧ hasX l id = true ∧ stAt l (idxX l id) = st := by
  simp only [inSt, Bool.and_eq_true, beq_iff_eq] at h
  exact ⟨h.1.1, h.1.2, h.2⟩

/-- the list with a file replaced -/
def setX (l : List FileD) (id : Int) (F : FileD → FileD) : List FileD := match l[idxX l id]? with | none => l | some f => l.set (idxX l id) (F f)
theorem setX_eq {l : List FileD} {id : Int} (h : hasX l id = true) (F : FileD → FileD) : setX l id F = l.set (idxX l id) (F (l[idxX l id]'(hasX_lt h))) := by
  unfold setX
  rw [List.getElem?_eq_getElem (hasX_lt h)]
theorem setX_len (l : List FileD) (id : Int) (F : FileD → FileD) : (setX l id F).length = l.length := by
  unfold setX
  split <;> simp
def keepL (b : Bool) (l : List FileD) : List FileD := if b then l else []
theorem keepL_le {b : Bool} {l : List FileD} {n : Nat} (h : l.length ≤ n) : (keepL b l).length ≤ n := by
  unfold keepL
  split
  · exact h
  · simp
theorem keepL_yes (l : List FileD) : keepL true l = l := rfl
theorem keepL_no (l : List FileD) : keepL false l = [] := rfl

def fClose (d : Int) (f : FileD) : FileD := ⟨f.id, f.series, f.title, f.opened, d, 1, f.pages⟩
def fReopen (f : FileD) : FileD := ⟨f.id, f.series, f.title, f.opened, 0, 0, f.pages⟩
def fState (s : Int) (f : FileD) : FileD := ⟨f.id, f.series, f.title, f.opened, f.closed, s, f.pages⟩
def fPages (p : Int) (f : FileD) : FileD := ⟨f.id, f.series, f.title, f.opened, f.closed, f.state, p⟩
theorem file_parts {f : FileD} (h : fileB f = true) : 1 ≤ f.id ∧ f.id ≤ 999 ∧ 1 ≤ f.series ∧ f.series ≤ 99 ∧ wordB f.title = true ∧ 0 ≤ f.opened ∧ f.opened ≤ 20000 ∧ 0 ≤ f.pages ∧ f.pages ≤ 5000 ∧
    ((f.state = 0 ∧ f.closed = 0) ∨ (1 ≤ f.state ∧ f.state ≤ 2 ∧ 0 ≤ f.closed ∧ f.closed ≤ 20000 ∧ f.opened ≤ f.closed)) := by
  simp only [fileB, inB, Bool.and_eq_true, Bool.or_eq_true, decide_eq_true_eq, beq_iff_eq] at h
  obtain ⟨⟨⟨⟨⟨h1, h2⟩, h3⟩, h4⟩, h5⟩, h6⟩ := h
  refine ⟨h1.1, h1.2, h2.1, h2.2, h3, h4.1, h4.2, h5.1, h5.2, ?_⟩
  omega

end Go.Proofs.YtlhihdcdbclcbaaDoor
