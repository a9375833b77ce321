/- Plain words on trees of functions: shared paths, names on paths, trees with one function more, moved or taken out. -/
import Derived.Test.YtnjgnehiclkkoaaDoorD3
import Derived.Test.YtnjgnehiclkkoaaDoorJn
namespace Go.Proofs.YtnjgnehiclkkoaaDoor
set_option linter.unusedVariables false
set_option linter.unusedSimpArgs false

/-- The length of the common beginning. -/
def cpn : List Int → List Int → Nat
  | a :: x, b :: y => if a = b then cpn x y + 1 else 0
  | _, _ => 0
theorem cpn_at : ∀ (x y : List Int) (n : Nat), n ≤ x.length → n ≤ y.length → (∀ j, j < n → x[j]? = y[j]?) → (n = x.length ∨ n = y.length ∨ x[n]? ≠ y[n]?) → cpn x y = n
  | [], y, n, h1, _, _, _ => by
    have : n = 0 := by simpa using h1
    subst this
    unfold cpn
    rfl
  | a :: x, [], n, _, h2, _, _ => by
    have : n = 0 := by simpa using h2
    subst this
    unfold cpn
    rfl
  | a :: x, b :: y, 0, _, _, _, h => by
    have : a ≠ b := by simpa using h
    simp [cpn, this]
  | a :: x, b :: y, n + 1, h1, h2, h3, h4 => by
    have h0 : a = b := by have := h3 0 (by omega); simpa using this
    have := cpn_at x y n (by simpa using h1) (by simpa using h2) (fun j hj => by have := h3 (j + 1) (by omega); simpa using this) (by simpa using h4)
    simp [cpn, h0, this]
theorem cpn_le (x y : List Int) : cpn x y ≤ x.length := by
  induction x generalizing y with
  | nil => unfold cpn; simp
  | cons a x ih =>
    cases y with
    | nil => unfold cpn; simp
    | cons b y =>
      unfold cpn
      split
      · have := ih y; simp; omega
      · simp
def shaB (l : List FnD) (a b : Int) : Bool := treeB l && hasF l a && hasF l b
def shaL (l : List FnD) (a b : Int) : List Int := if shaB l a b then (pathF l a).take (cpn (pathF l a) (pathF l b)) else []
theorem shaL_le (l : List FnD) (a b : Int) : (shaL l a b).length ≤ 99 := by
  unfold shaL
  split
  · next h =>
    simp only [shaB, Bool.and_eq_true] at h
    have := pathF_len h.1.1 h.1.2
    rw [List.length_take]; omega
  · simp

/-! One function more. -/
def nidF (l : List FnD) : Int := match l.getLast? with | none => 1 | some f => f.id + 1
theorem nidF_nil : nidF [] = 1 := rfl
theorem nidF_last {l : List FnD} (h : 0 < l.length) : nidF l = (l[l.length - 1]'(by omega)).id + 1 := by
  unfold nidF
  rw [List.getLast?_eq_getElem?, List.getElem?_eq_getElem (by omega)]
def newF (l : List FnD) (p : Int) (nm : ByteArray) : FnD := ⟨nidF l, p, nm⟩
def addFB (l : List FnD) (p : Int) (nm : ByteArray) : Bool := treeB (l ++ [newF l p nm])
def addFL (l : List FnD) (p : Int) (nm : ByteArray) : List FnD := if addFB l p nm then l ++ [newF l p nm] else []
def addFI (l : List FnD) (p : Int) (nm : ByteArray) : Int := if addFB l p nm then nidF l else 0
theorem addFL_le (l : List FnD) (p : Int) (nm : ByteArray) : (addFL l p nm).length ≤ 15 := by
  unfold addFL
  split
  · next h => exact (tree_all h).1
  · simp
theorem fnAtB_app {l : List FnD} {x : FnD} {i : Nat} (h : i < l.length) : fnAtB (l ++ [x]) i = fnAtB l i := by
  unfold fnAtB
  have h1 : (l ++ [x])[i]? = l[i]? := List.getElem?_append_left h
  have h2 : idAt (l ++ [x]) (i - 1) = idAt l (i - 1) := by
    unfold idAt
    rw [List.getElem?_append_left (by omega)]
  have h3 : (l ++ [x]).take i = l.take i := List.take_append_of_le_length (by omega)
  rw [h1, h2, h3]
theorem treeB_app {l : List FnD} {x : FnD} (h : treeB (l ++ [x]) = true) : treeB l = true := by
  have h1 := tree_all h
  rw [List.length_append] at h1
  rw [treeB_end fun i hi => ?_]
  · have := h1.1
    simp at this ⊢
    omega
  · rw [← fnAtB_app (x := x) hi]
    exact h1.2 i (by omega)
theorem addF_bad {l : List FnD} (h : treeB l = false) (p : Int) (nm : ByteArray) (x : FnD) : treeB (l ++ [x]) = false := by
  cases h1 : treeB (l ++ [x])
  · rfl
  · rw [treeB_app h1] at h; cases h
theorem addFB_no {l : List FnD} {p : Int} {nm : ByteArray} (h : addFB l p nm = false) : addFL l p nm = [] ∧ addFI l p nm = 0 := by simp [addFL, addFI, h]
theorem addFB_yes {l : List FnD} {p : Int} {nm : ByteArray} (h : addFB l p nm = true) : addFL l p nm = l ++ [newF l p nm] ∧ addFI l p nm = nidF l := by simp [addFL, addFI, h]
theorem tree_id {l : List FnD} (ht : treeB l = true) {i : Nat} (hi : i < l.length) : 1 ≤ l[i].id ∧ l[i].id ≤ 99 := by
  have := tree_par ht (hasF_get hi)
  omega
theorem nidF_rng {l : List FnD} (ht : treeB l = true) : 1 ≤ nidF l ∧ nidF l ≤ 100 := by
  by_cases h : 0 < l.length
  · rw [nidF_last h]
    have := tree_id ht (i := l.length - 1) (by omega)
    omega
  · have : l = [] := by simpa using h
    subst this
    rw [nidF_nil]; omega

/-! One function moved. -/
def movF (l : List FnD) (id p : Int) : List FnD := match l[idxF l id]? with | none => l | some f => l.set (idxF l id) ⟨f.id, p, f.name⟩
theorem movF_eq {l : List FnD} {id : Int} (h : hasF l id = true) (p : Int) : movF l id p = l.set (idxF l id) ⟨(l[idxF l id]'(hasF_lt h)).id, p, (l[idxF l id]'(hasF_lt h)).name⟩ := by
  unfold movF
  rw [List.getElem?_eq_getElem (hasF_lt h)]
theorem movF_len (l : List FnD) (id p : Int) : (movF l id p).length = l.length := by
  unfold movF
  split <;> simp
def movB (l : List FnD) (id p : Int) : Bool := treeB l && hasF l id && treeB (movF l id p)
def movL (l : List FnD) (id p : Int) : List FnD := if movB l id p then movF l id p else []
theorem movL_le (l : List FnD) (id p : Int) : (movL l id p).length ≤ l.length := by
  unfold movL
  split
  · rw [movF_len]; omega
  · simp
theorem movB_no {l : List FnD} {id p : Int} (h : treeB l = false ∨ hasF l id = false ∨ treeB (movF l id p) = false) : movB l id p = false ∧ movL l id p = [] := by
  have : movB l id p = false := by
    unfold movB
    rcases h with h | h | h <;> simp [h]
  exact ⟨this, by simp [movL, this]⟩
theorem movB_yes {l : List FnD} {id p : Int} (h1 : treeB l = true) (h2 : hasF l id = true) (h3 : treeB (movF l id p) = true) : movB l id p = true ∧ movL l id p = movF l id p := by
  have : movB l id p = true := by simp [movB, h1, h2, h3]
  exact ⟨this, by simp [movL, this]⟩

/-! One function taken out. -/
def leafB (l : List FnD) (id : Int) : Bool := treeB l && hasF l id && !(l.any fun f => f.parent == id)
def outF (l : List FnD) (id : Int) : List FnD := l.filter fun f => f.id != id
def leafL (l : List FnD) (id : Int) : List FnD := if leafB l id then outF l id else []
def outK (l : List FnD) (id : Int) (k : Nat) : List FnD := (l.take k).filter fun f => f.id != id
theorem outK_zero (l : List FnD) (id : Int) : outK l id 0 = [] := by simp [outK]
theorem outK_end (l : List FnD) (id : Int) : outK l id l.length = outF l id := by simp [outK, outF]
theorem outK_le (l : List FnD) (id : Int) (k : Nat) : (outK l id k).length ≤ l.length := by
  unfold outK
  refine Nat.le_trans (List.length_filter_le _ _) ?_
  simp; omega
theorem outK_yes {l : List FnD} {id : Int} {k : Nat} (h : k < l.length) (hs : (l[k].id != id) = true) : outK l id (k + 1) = outK l id k ++ [l[k]] := by
  unfold outK
  rw [List.take_succ_eq_append_getElem h, List.filter_append]
  congr 1
  simp [List.filter_cons, hs]
theorem outK_no {l : List FnD} {id : Int} {k : Nat} (h : k < l.length) (hs : (l[k].id != id) = false) : outK l id (k + 1) = outK l id k := by
  unfold outK
  rw [List.take_succ_eq_append_getElem h, List.filter_append]
  simp [List.filter_cons, hs]
theorem leafL_le (l : List FnD) (id : Int) : (leafL l id).length ≤ l.length := by
  unfold leafL
  split
  · exact List.length_filter_le _ _
  · simp
theorem leafB_no {l : List FnD} {id : Int} (h : treeB l = false ∨ hasF l id = false ∨ (l.any fun f => f.parent == id) = true) : leafB l id = false ∧ leafL l id = [] := by
  have : leafB l id = false := by
    unfold leafB
    rcases h with h | h | h <;> simp [h]
  exact ⟨this, by simp [leafL, this]⟩
theorem leafB_yes {l : List FnD} {id : Int} (h1 : treeB l = true) (h2 : hasF l id = true) (h3 : (l.any fun f => f.parent == id) = false) : leafB l id = true ∧ leafL l id = outF l id := by
  have : leafB l id = true := by simp only [leafB, h1, h2, h3]; rfl
  exact ⟨this, by simp [leafL, this]⟩
theorem any_par_at {l : List FnD} {id : Int} {k : Nat} (h : k < l.length) (hs : (l[k].parent == id) = true) : (l.any fun f => f.parent == id) = true :=
  List.any_eq_true.2 ⟨l[k], List.getElem_mem h, hs⟩
theorem any_par_none {l : List FnD} {id : Int} (h : ∀ j (hj : j < l.length), j < l.length → (l[j].parent == id) = false) : (l.any fun f => f.parent == id) = false := by
  rw [List.any_eq_false]
  intro x hx
  obtain ⟨j, hj, rfl⟩ := List.mem_iff_getElem.1 hx
  rw [h j hj hj]; exact Bool.false_ne_true
theorem outF_at {l : List FnD} {id : Int} (ht : treeB l = true) (h : hasF l id = true) : outF l id = l.take (idxF l id) ++ l.drop (idxF l id + 1) := by
  have hlt := hasF_lt h
  have he := (idxF_id h).2
  have hr := rise_of (l := l) (n := l.length) fun i hi => fnAtI_of ((tree_all ht).2 i hi)
  have e0 : l = l.take (idxF l id) ++ l[idxF l id] :: l.drop (idxF l id + 1) := by
    rw [← List.drop_eq_getElem_cons hlt, List.take_append_drop]
  unfold outF
  conv => lhs; rw [e0]
  rw [List.filter_append, List.filter_cons]
  have h1 : (l[idxF l id].id != id) = false := by simp [he]
  rw [h1]
  have hA : (l.take (idxF l id)).filter (fun f => f.id != id) = l.take (idxF l id) := by
    rw [List.filter_eq_self]
    intro x hx
    obtain ⟨j, hj, rfl⟩ := List.mem_take_iff_getElem.1 hx
    have h2 := hr j (idxF l id) (by omega) hlt
    rw [← idAt_eq (show j < l.length by omega), ← idAt_eq hlt, he] at h2
    simp; omega
  have hB : (l.drop (idxF l id + 1)).filter (fun f => f.id != id) = l.drop (idxF l id + 1) := by
    rw [List.filter_eq_self]
    intro x hx
    obtain ⟨j, hj, rfl⟩ := List.mem_drop_iff_getElem.1 hx
    have h2 := hr (idxF l id) (idxF l id + 1 + j) (by omega) (by omega)
    rw [← idAt_eq (show idxF l id + 1 + j < l.length by omega), ← idAt_eq hlt, he] at h2
    simp; omega
  rw [hA, hB]
  rfl

/-! The names on a path. -/
def nameF (l : List FnD) (id : Int) : ByteArray := (l[idxF l id]?).elim ⟨#[]⟩ (·.name)
theorem nameF_eq {l : List FnD} {id : Int} (h : hasF l id = true) : (l[idxF l id]'(hasF_lt h)).name = nameF l id := by simp [nameF, hasF_lt h]
def slashB : ByteArray := ⟨#[47]⟩
def namesF (l : List FnD) (id : Int) : List ByteArray := (pathF l id).map (nameF l)
def namedF (l : List FnD) (id : Int) : ByteArray := joinV (namesF l id) slashB
def nmpB (l : List FnD) (id : Int) : Bool := treeB l && hasF l id
def nmpV (l : List FnD) (id : Int) : ByteArray := if nmpB l id then namedF l id else ⟨#[]⟩
theorem fnB_name {f : FnD} (h : fnB f = true) : f.name.size ≤ 10 := by
  simp [fnB, wordB] at h
  omega
theorem tree_name {l : List FnD} (ht : treeB l = true) {id : Int} (h : hasF l id = true) : (nameF l id).size ≤ 10 := by
  have h1 := (tree_all ht).2 _ (hasF_lt h)
  unfold fnAtB at h1
  have hf : l[idxF l id]? = some (l[idxF l id]'(hasF_lt h)) := by simp [hasF_lt h]
  rw [hf] at h1
  simp only [Bool.and_eq_true] at h1
  rw [← nameF_eq h]
  exact fnB_name h1.1.1.1
theorem namesF_len (l : List FnD) (id : Int) : (namesF l id).length = (pathF l id).length := by simp [namesF]
theorem totS_map {l : List FnD} (ht : treeB l = true) : ∀ p : List Int, (∀ x ∈ p, hasF l x = true) → totS (p.map (nameF l)) ≤ 10 * p.length
  | [], _ => by simp [totS]
  | x :: p, h => by
    have h1 := totS_map ht p fun y hy => h y (List.mem_cons_of_mem _ hy)
    have h2 := tree_name ht (h x (List.mem_cons_self ..))
    unfold totS at h1 ⊢
    simp only [List.map_cons, List.sum_cons, List.length_cons]
    omega
theorem namesF_tot {l : List FnD} (ht : treeB l = true) {id : Int} (h : hasF l id = true) : totS (namesF l id) ≤ 990 := by
  have h1 := totS_map ht (pathF l id) (pathF_has ht h)
  have h2 := pathF_len ht h
  unfold namesF
  omega
theorem namedF_size {l : List FnD} (ht : treeB l = true) {id : Int} (h : hasF l id = true) (k : Nat) (hk : k ≤ (namesF l id).length) : (joinV ((namesF l id).take k) slashB).size ≤ 1100 := by
  rw [joinV_size _ _ rfl k hk]
  have h1 := namesF_tot ht h
  have h2 := totS_take (namesF l id) k
  have h3 := pathF_len ht h
  rw [namesF_len] at hk
  omega

/-! The function of a named path. -/
/-- the place of the first function of a named path, or the length -/
def fpN (l : List FnD) (p : ByteArray) : Nat := l.findIdx fun f => (namedF l f.id).toList == p.toList
def fpB (l : List FnD) (p : ByteArray) : Bool := treeB l && decide (fpN l p < l.length)
def fpV (l : List FnD) (p : ByteArray) : Int := if fpB l p then (l[fpN l p]?).elim 0 (·.id) else 0
theorem fp_at {l : List FnD} {p : ByteArray} {k : Nat} (ht : treeB l = true) (hk : k < l.length) (h : ((namedF l l[k].id).toList == p.toList) = true) (hb : ∀ j (hj : j < l.length), j < k → ((namedF l l[j].id).toList == p.toList) = false) : fpB l p = true ∧ fpV l p = l[k].id := by
  have h1 : fpN l p = k := by
    unfold fpN
    rw [List.findIdx_eq hk]
    exact ⟨h, fun j hj => by simpa using hb j (by omega) hj⟩
  have h2 : fpB l p = true := by simp [fpB, ht, h1, hk]
  exact ⟨h2, by simp [fpV, h2, h1, hk]⟩
theorem fp_none {l : List FnD} {p : ByteArray} (h : treeB l = false ∨ ∀ j (hj : j < l.length), j < l.length → ((namedF l l[j].id).toList == p.toList) = false) : fpB l p = false ∧ fpV l p = 0 := by
  have h2 : fpB l p = false := by
    rcases h with h | h
    · simp [fpB, h]
    · have : fpN l p = l.length := by
        unfold fpN
        rw [List.findIdx_eq_length]
        intro e he
        obtain ⟨j, hj, rfl⟩ := List.mem_iff_getElem.1 he
        exact h j hj hj
      simp [fpB, this]
  exact ⟨h2, by simp [fpV, h2]⟩

end Go.Proofs.YtnjgnehiclkkoaaDoor
