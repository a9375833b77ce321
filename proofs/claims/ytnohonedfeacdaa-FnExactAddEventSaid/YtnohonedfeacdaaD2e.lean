/- A record without an event: the plain words. -/
import Derived.Test.YtnohonedfeacdaaW2b
namespace Go.Proofs.Ytnohonedfeacdaa
set_option linter.unusedVariables false
set_option linter.unusedSimpArgs false
open Go.RowKit

def wE (l : List Ev) (k : Int) : List Ev := l.filter fun e => !(e.1 == k)
def wEK (l : List Ev) (k : Int) (n : Nat) : List Ev := wE (l.take n) k
theorem wEK_le (l : List Ev) (k : Int) (n : Nat) : (wEK l k n).length ≤ l.length := Nat.le_trans (List.length_filter_le _ _) (by simp; omega)
theorem wEK_end (l : List Ev) (k : Int) : wEK l k l.length = wE l k := by simp [wEK]
theorem wEK_yes {l : List Ev} {k : Int} {n : Nat} (h : n < l.length) (hs : (l[n].1 == k) = false) : wEK l k (n + 1) = wEK l k n ++ [l[n]] := by
  unfold wEK wE
  rw [List.take_succ_eq_append_getElem h, List.filter_append, List.filter_cons, if_pos (by rw [hs]; rfl), List.filter_nil]
theorem wEK_no {l : List Ev} {k : Int} {n : Nat} (h : n < l.length) (hs : (l[n].1 == k) = true) : wEK l k (n + 1) = wEK l k n := by
  unfold wEK wE
  rw [List.take_succ_eq_append_getElem h, List.filter_append, List.filter_cons, if_neg (by rw [hs]; exact Bool.false_ne_true), List.filter_nil, List.append_nil]
theorem idxE_hit {l : List Ev} {k : Int} (h : idxE l k < l.length) : (l[idxE l k].1 == k) = true := List.findIdx_getElem (w := h)
theorem idxE_min {l : List Ev} {k : Int} (j : Nat) (hj : j < idxE l k) (hl : j < l.length) : (l[j].1 == k) = false := by
  have := List.not_of_lt_findIdx hj
  simpa using this
theorem evs_next {id series made : Int} {l : List Ev} (h : recB id series made l = true) (j : Nat) (hj : j + 1 < l.length) : l[j].1 < l[j + 1].1 := by
  simp [recB, evsB] at h
  have h1 := h.2 (j + 1) hj
  rcases evAtB_cases (made := made) hj with ⟨_, h3⟩ | ⟨_, _, h3⟩ | ⟨_, _, h2, _⟩ | ⟨_, _, _, h2, h3⟩ | ⟨_, _, _, h2, _⟩
  · rw [h3] at h1; cases h1
  · rw [h3] at h1; cases h1
  · simp at h2
  · rw [h3] at h1; cases h1
  · have e : kindAt l (j + 1 - 1) = l[j].1 := by rw [show j + 1 - 1 = j by omega, ← kindAt_eq (by omega)]
    rw [e] at h2
    simpa using h2
theorem evs_lt {id series made : Int} {l : List Ev} (h : recB id series made l = true) (i : Nat) : ∀ d (hd : i + d + 1 < l.length), l[i].1 < l[i + d + 1].1
  | 0, hd => evs_next h i hd
  | d + 1, hd => Int.lt_trans (evs_lt h i d (by omega)) (evs_next h (i + d + 1) hd)
theorem wE_at {id series made : Int} {l : List Ev} (h : recB id series made l = true) {k : Int} (hf : hasE l k = true) : wE l k = l.take (idxE l k) ++ l.drop (idxE l k + 1) := by
  have hi := hasE_lt hf
  have e0 : l = l.take (idxE l k) ++ (l[idxE l k] :: l.drop (idxE l k + 1)) := by
    rw [List.getElem_cons_drop, List.take_append_drop]
  unfold wE
  conv => lhs; rw [e0]
  rw [List.filter_append, List.filter_cons, if_neg (by rw [idxE_hit hi]; exact Bool.false_ne_true)]
  congr 1
  · rw [List.filter_eq_self]
    intro r hr
    obtain ⟨j, hj, rfl⟩ := List.mem_iff_getElem.1 hr
    simp only [List.length_take] at hj
    rw [List.getElem_take, idxE_min j (by omega) (by omega)]
    rfl
  · rw [List.filter_eq_self]
    intro r hr
    obtain ⟨j, hj, rfl⟩ := List.mem_iff_getElem.1 hr
    simp only [List.length_drop] at hj
    rw [List.getElem_drop]
    cases hh : l[idxE l k + 1 + j].1 == k
    · rfl
    · exfalso
      have h1 := evs_lt h (idxE l k) j (by omega)
      have h2 := idxE_hit hi
      have e : idxE l k + 1 + j = idxE l k + j + 1 := by omega
      simp only [e] at hh
      simp at h2 hh
      omega
theorem hasE_zero {id series made : Int} {l : List Ev} (h : recB id series made l = true) : hasE l 0 = false := by
  cases hf : hasE l 0
  · rfl
  · exfalso
    have hi := hasE_lt hf
    have h1 := idxE_hit hi
    have h2 := (evB_of_rec h).2.2.2 _ hi
    simp at h1
    omega
def keepI (b : Bool) (x : Int) : Int := if b then x else 0
def dropEB (id series made : Int) (l : List Ev) (k : Int) : Bool := recB id series made l && hasE l k
def dropEL (id series made : Int) (l : List Ev) (k : Int) : List Ev := if dropEB id series made l k then wE l k else []
theorem dropEL_le (id series made : Int) (l : List Ev) (k : Int) : (dropEL id series made l k).length ≤ l.length := by
  unfold dropEL
  split
  · exact List.length_filter_le _ _
  · simp

end Go.Proofs.Ytnohonedfeacdaa
