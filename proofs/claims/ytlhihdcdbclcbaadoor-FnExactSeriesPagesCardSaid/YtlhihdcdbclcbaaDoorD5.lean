/- Plain words on lists of files. -/
import Derived.Test.YtlhihdcdbclcbaaDoorW5
namespace Go.Proofs.YtlhihdcdbclcbaaDoor
set_option linter.unusedVariables false
set_option linter.unusedSimpArgs false

/-- the place of the first file with an Id, or the length -/
def idxX (l : List FileD) (id : Int) : Nat := l.findIdx fun f => f.id == id
def hasX (l : List FileD) (id : Int) : Bool := decide (idxX l id < l.length)
def idxXI (l : List FileD) (id : Int) : Int := if hasX l id then (idxX l id : Int) else -1
theorem idxX_at {l : List FileD} {k : Int} (i : Nat) (hi : i < l.length) (he : l[i].id = k) (hb : ∀ j (hj : j < l.length), j < i → l[j].id ≠ k) : idxX l k = i := by
  unfold idxX
  rw [List.findIdx_eq hi]
  exact ⟨by simp [he], fun j hj => by simpa using hb j (by omega) hj⟩
theorem idxX_none {l : List FileD} {k : Int} (hb : ∀ j (hj : j < l.length), j < l.length → l[j].id ≠ k) : idxX l k = l.length := by
  unfold idxX
  rw [List.findIdx_eq_length]
  intro e he
  obtain ⟨j, hj, rfl⟩ := List.mem_iff_getElem.1 he
  simpa using hb j hj hj
theorem hasX_at {l : List FileD} {k : Int} (i : Nat) (hi : i < l.length) (he : l[i].id = k) (hb : ∀ j (hj : j < l.length), j < i → l[j].id ≠ k) : hasX l k = true := by
  unfold hasX; rw [idxX_at i hi he hb]; simpa using hi
theorem hasX_none {l : List FileD} {k : Int} (hb : ∀ j (hj : j < l.length), j < l.length → l[j].id ≠ k) : hasX l k = false := by
  unfold hasX; rw [idxX_none hb]; simp
theorem hasX_lt {l : List FileD} {k : Int} (h : hasX l k = true) : idxX l k < l.length := by simpa [hasX] using h
theorem idxX_id {l : List FileD} {k : Int} (h : hasX l k = true) : (l[idxX l k]'(hasX_lt h)).id = k := by
  have := List.findIdx_getElem (p := fun f : FileD => f.id == k) (xs := l) (w := hasX_lt h)
  exact beq_iff_eq.1 this

def sameX (f g : FileD) : Bool := (g.series == f.series) && (g.title.toList == f.title.toList)
def idXt (l : List FileD) (i : Nat) : Int := (l[i]?).elim 0 (·.id)
theorem idXt_eq {l : List FileD} {i : Nat} (h : i < l.length) : l[i].id = idXt l i := by simp [idXt, h]
/-- what AreFiles asks of the file at place i -/
def fileAtB (l : List FileD) (i : Nat) : Bool := match l[i]? with
  | none => false
  | some f => fileB f && (decide (i = 0) || decide (idXt l (i - 1) < f.id)) && !(l.take i).any (sameX f)
def filesB (l : List FileD) : Bool := (List.range l.length).all (fileAtB l) && decide (l.length ≤ 10)
theorem filesB_bad {l : List FileD} (k : Nat) (h : k < l.length) (hb : fileAtB l k = false) : filesB l = false := by
  unfold filesB
  have : (List.range l.length).all (fileAtB l) = false := by
    rw [List.all_eq_false]
    exact ⟨k, by simpa using h, by rw [hb]; exact Bool.false_ne_true⟩
  rw [this]; rfl
theorem filesB_end {l : List FileD} (h : ∀ i, i < l.length → fileAtB l i = true) : filesB l = decide (l.length ≤ 10) := by
  unfold filesB
  have : (List.range l.length).all (fileAtB l) = true := by
    rw [List.all_eq_true]
    intro i hi
    exact h i (by simpa using hi)
  rw [this, Bool.true_and]
theorem filesB_long {l : List FileD} (h : 10 < l.length) : filesB l = false := by
  unfold filesB
  have : decide (l.length ≤ 10) = false := by simpa using h
  rw [this, Bool.and_false]
theorem files_all {l : List FileD} (h : filesB l = true) : l.length ≤ 10 ∧ ∀ i, i < l.length → fileAtB l i = true := by
  unfold filesB at h
  simp only [Bool.and_eq_true, decide_eq_true_eq, List.all_eq_true, List.mem_range] at h
  exact ⟨h.2, h.1⟩
theorem file_of {l : List FileD} (h : filesB l = true) {i : Nat} (hi : i < l.length) : fileB l[i] = true := by
  have h1 := (files_all h).2 i hi
  unfold fileAtB at h1
  have hf : l[i]? = some l[i] := by simp [hi]
  rw [hf] at h1
  simp only [Bool.and_eq_true] at h1
  exact h1.1.1
theorem filesB_rise {l : List FileD} (h : filesB l = true) : ∀ i j, i < j → j < l.length → idXt l i < idXt l j := by
  intro i j hij hj
  induction j with
  | zero => omega
  | succ j ih =>
    have h1 := (files_all h).2 (j + 1) hj
    unfold fileAtB at h1
    have hf : l[j + 1]? = some l[j + 1] := by simp [hj]
    rw [hf] at h1
    simp only [Bool.and_eq_true, Bool.or_eq_true, decide_eq_true_eq] at h1
    have h2 : idXt l j < idXt l (j + 1) := by
      have h3 := h1.1.2
      simp only [Nat.add_sub_cancel] at h3
      rcases h3 with h3 | h3
      · omega
      · simpa [idXt, hf] using h3
    rcases Nat.lt_succ_iff_lt_or_eq.1 hij with h3 | rfl
    · have := ih h3 (by omega); omega
    · exact h2
/-- Ids stand once. -/
theorem idxX_get {l : List FileD} (h : filesB l = true) {i : Nat} (hi : i < l.length) : idxX l l[i].id = i := by
  refine idxX_at i hi rfl fun j hj hji he => ?_
  have := filesB_rise h j i hji hi
  rw [← idXt_eq hj, ← idXt_eq hi] at this
  omega

theorem any_set {α : Type} {p : α → Bool} : ∀ {l : List α} {i : Nat} {x : α}, (∀ y, l[i]? = some y → p x = p y) → (l.set i x).any p = l.any p
  | [], _, _, _ => by simp
  | a :: l, 0, x, h => by simp [h a]
  | a :: l, i + 1, x, h => by
    simp only [List.set_cons_succ, List.any_cons]
    rw [any_set (l := l) (fun y hy => h y (by simpa using hy))]
theorem fileAtB_set {l : List FileD} {i : Nat} (hi : i < l.length) {x : FileD} (h1 : x.id = l[i].id) (h2 : x.series = l[i].series) (h3 : x.title = l[i].title) (hx : fileB x = fileB l[i]) (j : Nat) :
    fileAtB (l.set i x) j = fileAtB l j := by
  have hid : ∀ q, idXt (l.set i x) q = idXt l q := fun q => by
    unfold idXt
    rw [List.getElem?_set]
    by_cases hq : i = q
    · subst hq; simp [hi, h1]
    · simp [hq]
  have hany : ∀ f, ((l.set i x).take j).any (sameX f) = (l.take j).any (sameX f) := fun f => by
    rw [List.take_set]
    refine any_set fun y hy => ?_
    rw [List.getElem?_take] at hy
    split at hy
    · rw [List.getElem?_eq_getElem hi] at hy
      obtain rfl := Option.some.inj hy
      simp [sameX, h2, h3]
    · cases hy
  have hsame : sameX x = sameX l[i] := by funext g; simp [sameX, h2, h3]
  unfold fileAtB
  rw [List.getElem?_set]
  by_cases hj : i = j
  · subst hj
    rw [if_pos rfl, if_pos hi, List.getElem?_eq_getElem hi]
    simp only [hid, hany, hx, hsame, h1]
  · rw [if_neg hj]
    cases l[j]? with
    | none => rfl
    | some f => simp only [hid, hany]
theorem filesB_set {l : List FileD} (h : filesB l = true) {i : Nat} (hi : i < l.length) {x : FileD} (h1 : x.id = l[i].id) (h2 : x.series = l[i].series) (h3 : x.title = l[i].title) :
    filesB (l.set i x) = fileB x := by
  cases hx : fileB x
  · refine filesB_bad i (by simpa using hi) ?_
    unfold fileAtB
    rw [List.getElem?_set_self hi]
    simp [hx]
  · have he : fileB x = fileB l[i] := by rw [hx, file_of h hi]
    unfold filesB at h ⊢
    rw [List.length_set]
    rw [← h]
    congr 1
    congr 1
    funext j
    exact fileAtB_set hi h1 h2 h3 he j

/-- a file with an Id stands in a valid list, in a state -/
def stAt (l : List FileD) (i : Nat) : Int := (l[i]?).elim 0 (·.state)
def opAt (l : List FileD) (i : Nat) : Int := (l[i]?).elim 0 (·.opened)
def clAt (l : List FileD) (i : Nat) : Int := (l[i]?).elim 0 (·.closed)
def pgAt (l : List FileD) (i : Nat) : Int := (l[i]?).elim 0 (·.pages)
theorem stAt_eq {l : List FileD} {i : Nat} (h : i < l.length) : l[i].state = stAt l i := by simp [stAt, h]
theorem opAt_eq {l : List FileD} {i : Nat} (h : i < l.length) : l[i].opened = opAt l i := by simp [opAt, h]
theorem clAt_eq {l : List FileD} {i : Nat} (h : i < l.length) : l[i].closed = clAt l i := by simp [clAt, h]
theorem pgAt_eq {l : List FileD} {i : Nat} (h : i < l.length) : l[i].pages = pgAt l i := by simp [pgAt, h]
def inSt (l : List FileD) (id st : Int) : Bool := filesB l && hasX l id && (stAt l (idxX l id) == st)

end Go.Proofs.YtlhihdcdbclcbaaDoor
