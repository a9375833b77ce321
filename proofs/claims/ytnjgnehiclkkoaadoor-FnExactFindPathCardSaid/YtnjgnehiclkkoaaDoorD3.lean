/- Plain words on trees of functions: what is a tree, its paths. -/
import Derived.Test.YtnjgnehiclkkoaaDoorW3
namespace Go.Proofs.YtnjgnehiclkkoaaDoor
set_option linter.unusedVariables false
set_option linter.unusedSimpArgs false

/-- the place of the first function with an Id, or the length -/
def idxF (l : List FnD) (id : Int) : Nat := l.findIdx fun f => f.id == id
def hasF (l : List FnD) (id : Int) : Bool := decide (idxF l id < l.length)
def idxFI (l : List FnD) (id : Int) : Int := if hasF l id then (idxF l id : Int) else -1
theorem idxF_at {l : List FnD} {k : Int} (i : Nat) (hi : i < l.length) (he : l[i].id = k) (hb : ∀ j (hj : j < l.length), j < i → l[j].id ≠ k) : idxF l k = i := by
  unfold idxF
  rw [List.findIdx_eq hi]
  exact ⟨by simp [he], fun j hj => by simpa using hb j (by omega) hj⟩
theorem idxF_none {l : List FnD} {k : Int} (hb : ∀ j (hj : j < l.length), j < l.length → l[j].id ≠ k) : idxF l k = l.length := by
  unfold idxF
  rw [List.findIdx_eq_length]
  intro e he
  obtain ⟨j, hj, rfl⟩ := List.mem_iff_getElem.1 he
  simpa using hb j hj hj
theorem hasF_at {l : List FnD} {k : Int} (i : Nat) (hi : i < l.length) (he : l[i].id = k) (hb : ∀ j (hj : j < l.length), j < i → l[j].id ≠ k) : hasF l k = true := by
  unfold hasF; rw [idxF_at i hi he hb]; simpa using hi
theorem hasF_none {l : List FnD} {k : Int} (hb : ∀ j (hj : j < l.length), j < l.length → l[j].id ≠ k) : hasF l k = false := by
  unfold hasF; rw [idxF_none hb]; simp
theorem hasF_lt {l : List FnD} {k : Int} (h : hasF l k = true) : idxF l k < l.length := by simpa [hasF] using h
theorem idxF_id {l : List FnD} {k : Int} (h : hasF l k = true) : l[idxF l k]'(hasF_lt h) = l[idxF l k]'(hasF_lt h) ∧ (l[idxF l k]'(hasF_lt h)).id = k := by
  refine ⟨rfl, ?_⟩
  have := List.findIdx_getElem (p := fun f : FnD => f.id == k) (xs := l) (w := hasF_lt h)
  exact beq_iff_eq.1 this
theorem hasF_iff {l : List FnD} {k : Int} : hasF l k = true ↔ ∃ f ∈ l, f.id = k := by
  unfold hasF idxF
  rw [decide_eq_true_eq, List.findIdx_lt_length]
  simp

def sameF (f g : FnD) : Bool := (g.parent == f.parent) && (g.name.toList == f.name.toList)
/-- the id of the function ahead of place i -/
def idAt (l : List FnD) (i : Nat) : Int := (l[i]?).elim 0 (·.id)
theorem idAt_eq {l : List FnD} {i : Nat} (h : i < l.length) : l[i].id = idAt l i := by simp [idAt, h]
/-- what IsTree asks of the function at place i: its parent anywhere in the list | ahead of it -/
def fnAtI (l : List FnD) (i : Nat) : Bool := match l[i]? with
  | none => false
  | some f => fnB f && (decide (i = 0) || decide (idAt l (i - 1) < f.id)) && (decide (f.parent ≤ 0) || hasF l f.parent) && !(l.take i).any (sameF f)
def fnAtB (l : List FnD) (i : Nat) : Bool := match l[i]? with
  | none => false
  | some f => fnB f && (decide (i = 0) || decide (idAt l (i - 1) < f.id)) && (decide (f.parent ≤ 0) || hasF (l.take i) f.parent) && !(l.take i).any (sameF f)
def treeB (l : List FnD) : Bool := (List.range l.length).all (fnAtB l) && decide (l.length ≤ 15)

theorem hasF_take {l : List FnD} {i : Nat} {k : Int} (h : hasF (l.take i) k = true) : hasF l k = true := by
  rw [hasF_iff] at h ⊢
  obtain ⟨f, h1, h2⟩ := h
  exact ⟨f, List.mem_of_mem_take h1, h2⟩
theorem fnAtI_of {l : List FnD} {i : Nat} (h : fnAtB l i = true) : fnAtI l i = true := by
  unfold fnAtB at h
  unfold fnAtI
  cases hf : l[i]? with
  | none => rw [hf] at h; exact h
  | some f =>
    rw [hf] at h
    simp only [Bool.and_eq_true, Bool.or_eq_true] at h ⊢
    exact ⟨⟨⟨h.1.1.1, h.1.1.2⟩, h.1.2.imp id hasF_take⟩, h.2⟩
theorem rise_of {l : List FnD} {n : Nat} (h : ∀ i, i < n → fnAtI l i = true) : ∀ i j, i < j → j < n → idAt l i < idAt l j := by
  intro i j hij hj
  induction j with
  | zero => omega
  | succ j ih =>
    have h1 := h (j + 1) hj
    unfold fnAtI at h1
    cases hf : l[j + 1]? with
    | none => rw [hf] at h1; cases h1
    | some f =>
      rw [hf] at h1
      simp only [Bool.and_eq_true, Bool.or_eq_true, decide_eq_true_eq] at h1
      have h2 : idAt l j < idAt l (j + 1) := by
        have h3 := h1.1.1.2
        simp only [Nat.add_sub_cancel] at h3
        rcases h3 with h3 | h3
        · omega
        · simpa [idAt, hf] using h3
      rcases Nat.lt_succ_iff_lt_or_eq.1 hij with h3 | rfl
      · have := ih h3 (by omega); omega
      · exact h2
theorem fnAtB_of {l : List FnD} (h : ∀ i, i < l.length → fnAtI l i = true) : ∀ i, i < l.length → fnAtB l i = true := by
  intro i hi
  have h1 := h i hi
  have hr := rise_of h
  unfold fnAtI at h1
  unfold fnAtB
  have hf : l[i]? = some l[i] := by simp [hi]
  rw [hf] at h1 ⊢
  simp only [Bool.and_eq_true, Bool.or_eq_true, decide_eq_true_eq] at h1 ⊢
  refine ⟨⟨⟨h1.1.1.1, h1.1.1.2⟩, ?_⟩, h1.2⟩
  rcases h1.1.2 with h2 | h2
  · exact .inl h2
  · right
    have hp : l[i].parent ≤ l[i].id - 1 := by
      have := h1.1.1.1
      simp [fnB, inB] at this
      omega
    have hj := hasF_lt h2
    have he := (idxF_id h2).2
    have hlt : idxF l l[i].parent < i := by
      rcases Nat.lt_trichotomy (idxF l l[i].parent) i with h3 | h3 | h3
      · exact h3
      · exfalso
        have : (l[idxF l l[i].parent]'hj).id = l[i].id := by congr 1; simp [h3]
        omega
      · exfalso
        have := hr i _ h3 hj
        rw [← idAt_eq hi, ← idAt_eq hj] at this
        omega
    rw [hasF_iff]
    refine ⟨l[idxF l l[i].parent]'hj, ?_, he⟩
    rw [List.mem_take_iff_getElem]
    exact ⟨_, by omega, rfl⟩
theorem treeB_bad {l : List FnD} (k : Nat) (h : k < l.length) (hb : fnAtB l k = false) : treeB l = false := by
  unfold treeB
  have : (List.range l.length).all (fnAtB l) = false := by
    rw [List.all_eq_false]
    exact ⟨k, by simpa using h, by rw [hb]; exact Bool.false_ne_true⟩
  rw [this]; rfl
theorem treeB_badI {l : List FnD} (k : Nat) (h : k < l.length) (hb : fnAtI l k = false) : treeB l = false := by
  refine treeB_bad k h ?_
  cases h1 : fnAtB l k
  · rfl
  · rw [fnAtI_of h1] at hb; cases hb
theorem treeB_end {l : List FnD} (h : ∀ i, i < l.length → fnAtB l i = true) : treeB l = decide (l.length ≤ 15) := by
  unfold treeB
  have : (List.range l.length).all (fnAtB l) = true := by
    rw [List.all_eq_true]
    intro i hi
    exact h i (by simpa using hi)
  rw [this, Bool.true_and]
theorem treeB_endI {l : List FnD} (h : ∀ i, i < l.length → fnAtI l i = true) : treeB l = decide (l.length ≤ 15) := treeB_end (fnAtB_of h)
theorem treeB_long {l : List FnD} (h : 15 < l.length) : treeB l = false := by
  unfold treeB
  have : decide (l.length ≤ 15) = false := by simpa using h
  rw [this, Bool.and_false]
theorem tree_all {l : List FnD} (h : treeB l = true) : l.length ≤ 15 ∧ ∀ i, i < l.length → fnAtB l i = true := by
  unfold treeB at h
  simp only [Bool.and_eq_true, decide_eq_true_eq, List.all_eq_true, List.mem_range] at h
  exact ⟨h.2, h.1⟩

/-- the parent of the function with an Id -/
def parF (l : List FnD) (id : Int) : Int := (l[idxF l id]?).elim 0 (·.parent)
theorem parF_eq {l : List FnD} {id : Int} (h : hasF l id = true) : (l[idxF l id]'(hasF_lt h)).parent = parF l id := by simp [parF, hasF_lt h]
theorem tree_par {l : List FnD} (ht : treeB l = true) {id : Int} (h : hasF l id = true) :
    1 ≤ id ∧ id ≤ 99 ∧ 0 ≤ parF l id ∧ parF l id < id ∧ (0 < parF l id → hasF l (parF l id) = true) := by
  have h1 := (tree_all ht).2 _ (hasF_lt h)
  have he := (idxF_id h).2
  unfold fnAtB at h1
  have hf : l[idxF l id]? = some (l[idxF l id]'(hasF_lt h)) := by simp [hasF_lt h]
  rw [hf] at h1
  simp only [Bool.and_eq_true, Bool.or_eq_true, decide_eq_true_eq] at h1
  rw [parF_eq h] at h1
  obtain ⟨⟨⟨h2, _⟩, h3⟩, _⟩ := h1
  simp only [fnB, inB, Bool.and_eq_true, decide_eq_true_eq] at h2
  rw [parF_eq h, he] at h2
  refine ⟨by omega, by omega, by omega, by omega, fun hp => ?_⟩
  rcases h3 with h3 | h3
  · omega
  · exact hasF_take h3

/-- the way up from a function: its Id, its parent's, .. -/
def upW (l : List FnD) (id : Int) : List Int := if h : 0 < id ∧ parF l id < id then id :: upW l (parF l id) else []
termination_by id.toNat
decreasing_by omega
theorem upW_end {l : List FnD} {id : Int} (h : id ≤ 0) : upW l id = [] := by rw [upW, dif_neg (by omega)]
theorem upW_step {l : List FnD} {id : Int} (h : 0 < id) (h2 : parF l id < id) : upW l id = id :: upW l (parF l id) := by
  conv => lhs; rw [upW]
  rw [dif_pos ⟨h, h2⟩]
def pathF (l : List FnD) (id : Int) : List Int := (upW l id).reverse
theorem upW_len (l : List FnD) : ∀ (n : Nat) (id : Int), id.toNat ≤ n → (upW l id).length ≤ n
  | 0, id, h => by rw [upW_end (by omega)]; simp
  | n + 1, id, h => by
    rw [upW]
    split
    · have := upW_len l n (parF l id) (by omega)
      simp; omega
    · simp
theorem pathF_len {l : List FnD} (ht : treeB l = true) {id : Int} (h : hasF l id = true) : (pathF l id).length ≤ 99 := by
  have h1 := tree_par ht h
  have := upW_len l 99 id (by omega)
  simpa [pathF] using this
theorem upW_has {l : List FnD} (ht : treeB l = true) : ∀ (n : Nat) (id : Int), id.toNat ≤ n → (0 < id → hasF l id = true) → ∀ x ∈ upW l id, hasF l x = true
  | 0, id, h, _ => by rw [upW_end (by omega)]; simp
  | n + 1, id, h, hh => by
    intro x hx
    rw [upW] at hx
    split at hx
    · next hc =>
      have h1 := tree_par ht (hh hc.1)
      rcases List.mem_cons.1 hx with rfl | hx
      · exact hh hc.1
      · exact upW_has ht n _ (by omega) h1.2.2.2.2 x hx
    · simp at hx
theorem pathF_has {l : List FnD} (ht : treeB l = true) {id : Int} (h : hasF l id = true) : ∀ x ∈ pathF l id, hasF l x = true := by
  intro x hx
  exact upW_has ht _ id (Nat.le_refl _) (fun _ => h) x (by simpa [pathF] using hx)
theorem hasF_get {l : List FnD} {i : Nat} (hi : i < l.length) : hasF l l[i].id = true := hasF_iff.2 ⟨l[i], List.getElem_mem hi, rfl⟩

end Go.Proofs.YtnjgnehiclkkoaaDoor
