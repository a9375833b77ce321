/- A schedule without a rule: the plain words. -/
import Derived.Test.YtnohonedfeacdaaD4c
namespace Go.Proofs.Ytnohonedfeacdaa
set_option linter.unusedVariables false
set_option linter.unusedSimpArgs false
open Go.RowKit

def hitB (s e : Int) (r : RuleD) : Bool := r.s == s && r.e == e
def withoutL (l : List RuleD) (s e : Int) : List RuleD := l.filter fun r => !hitB s e r
def withoutK (l : List RuleD) (s e : Int) (k : Nat) : List RuleD := withoutL (l.take k) s e
theorem withoutK_le (l : List RuleD) (s e : Int) (k : Nat) : (withoutK l s e k).length ≤ l.length :=
  Nat.le_trans (List.length_filter_le _ _) (by simp; omega)
theorem withoutK_end (l : List RuleD) (s e : Int) : withoutK l s e l.length = withoutL l s e := by simp [withoutK]
theorem withoutK_yes {l : List RuleD} {s e : Int} {k : Nat} (h : k < l.length) (hs : hitB s e l[k] = false) : withoutK l s e (k + 1) = withoutK l s e k ++ [l[k]] := by
  unfold withoutK withoutL
  rw [List.take_succ_eq_append_getElem h, List.filter_append, List.filter_cons, if_pos (by rw [hs]; rfl), List.filter_nil]
theorem withoutK_no {l : List RuleD} {s e : Int} {k : Nat} (h : k < l.length) (hs : hitB s e l[k] = true) : withoutK l s e (k + 1) = withoutK l s e k := by
  unfold withoutK withoutL
  rw [List.take_succ_eq_append_getElem h, List.filter_append, List.filter_cons, if_neg (by rw [hs]; exact Bool.false_ne_true), List.filter_nil, List.append_nil]
def hitI (l : List RuleD) (s e : Int) : Nat := l.findIdx (hitB s e)
def foundB (l : List RuleD) (s e : Int) : Bool := decide (hitI l s e < l.length)
def hitZ (l : List RuleD) (s e : Int) : Int := if foundB l s e then (hitI l s e : Int) else -1
theorem hitI_at {l : List RuleD} {s e : Int} (i : Nat) (hi : i < l.length) (he : hitB s e l[i] = true) (hb : ∀ j (hj : j < l.length), j < i → hitB s e l[j] = false) : hitI l s e = i := by
  unfold hitI
  rw [List.findIdx_eq hi]
  exact ⟨he, fun j hj => hb j (by omega) hj⟩
theorem hitI_none {l : List RuleD} {s e : Int} (hb : ∀ j (hj : j < l.length), j < l.length → hitB s e l[j] = false) : hitI l s e = l.length := by
  unfold hitI
  rw [List.findIdx_eq_length]
  intro r hr
  obtain ⟨j, hj, rfl⟩ := List.mem_iff_getElem.1 hr
  exact hb j hj hj
theorem found_at {l : List RuleD} {s e : Int} (i : Nat) (hi : i < l.length) (he : hitB s e l[i] = true) (hb : ∀ j (hj : j < l.length), j < i → hitB s e l[j] = false) : foundB l s e = true := by
  unfold foundB; rw [hitI_at i hi he hb]; simpa using hi
theorem found_none {l : List RuleD} {s e : Int} (hb : ∀ j (hj : j < l.length), j < l.length → hitB s e l[j] = false) : foundB l s e = false := by
  unfold foundB; rw [hitI_none hb]; simp
theorem found_lt {l : List RuleD} {s e : Int} (h : foundB l s e = true) : hitI l s e < l.length := by simpa [foundB] using h
theorem hitI_hit {l : List RuleD} {s e : Int} (h : hitI l s e < l.length) : hitB s e l[hitI l s e] = true := List.findIdx_getElem (w := h)
theorem hitI_min {l : List RuleD} {s e : Int} (j : Nat) (hj : j < hitI l s e) (hl : j < l.length) : hitB s e l[j] = false := by
  have := List.not_of_lt_findIdx hj
  simpa using this

theorem sched_next {l : List RuleD} (h : schedB l = true) (j : Nat) (hj : j + 1 < l.length) : bef4 l[j].s l[j].e l[j + 1].s l[j + 1].e = true := by
  simp [schedB] at h
  have h1 := h.1 (j + 1) hj
  rcases ruleAtB_cases hj with ⟨_, h3⟩ | ⟨_, h2, _⟩ | ⟨_, _, h2, h3⟩ | ⟨_, _, h2, _⟩
  · rw [h3] at h1; cases h1
  · simp at h2
  · rw [h3] at h1; cases h1
  · have e : prv l (j + 1) = l[j] := by rw [← prv_eq (l := l) (k := j + 1) (by omega)]; rfl
    rwa [e] at h2
theorem bef4_trans {a b c d e f : Int} (h : bef4 a b c d = true) (k : bef4 c d e f = true) : bef4 a b e f = true := by
  simp [bef4] at h k ⊢; omega
theorem sched_lt {l : List RuleD} (h : schedB l = true) (i : Nat) : ∀ d (hd : i + d + 1 < l.length), bef4 l[i].s l[i].e l[i + d + 1].s l[i + d + 1].e = true
  | 0, hd => sched_next h i hd
  | d + 1, hd => bef4_trans (sched_lt h i d (by omega)) (sched_next h (i + d + 1) hd)
theorem sched_one {l : List RuleD} (h : schedB l = true) {s e : Int} {i j : Nat} (hi : i < l.length) (hj : j < l.length) (hij : i < j) (h1 : hitB s e l[i] = true) (h2 : hitB s e l[j] = true) : False := by
  obtain ⟨d, rfl⟩ : ∃ d, j = i + d + 1 := ⟨j - i - 1, by omega⟩
  have h3 := sched_lt h i d hj
  simp [hitB] at h1 h2
  simp [bef4, h1.1, h1.2, h2.1, h2.2] at h3
theorem without_at {l : List RuleD} (h : schedB l = true) {s e : Int} (hf : foundB l s e = true) : withoutL l s e = l.take (hitI l s e) ++ l.drop (hitI l s e + 1) := by
  have hi := found_lt hf
  have e0 : l = l.take (hitI l s e) ++ (l[hitI l s e] :: l.drop (hitI l s e + 1)) := by
    rw [List.getElem_cons_drop, List.take_append_drop]
  unfold withoutL
  conv => lhs; rw [e0]
  rw [List.filter_append, List.filter_cons, if_neg (by rw [hitI_hit hi]; exact Bool.false_ne_true)]
  congr 1
  · rw [List.filter_eq_self]
    intro r hr
    obtain ⟨j, hj, rfl⟩ := List.mem_iff_getElem.1 hr
    simp only [List.length_take] at hj
    rw [List.getElem_take, hitI_min j (by omega) (by omega)]
    rfl
  · rw [List.filter_eq_self]
    intro r hr
    obtain ⟨j, hj, rfl⟩ := List.mem_iff_getElem.1 hr
    simp only [List.length_drop] at hj
    rw [List.getElem_drop]
    cases hh : hitB s e l[hitI l s e + 1 + j]
    · rfl
    · exact (sched_one h hi (by omega) (by omega) (hitI_hit hi) hh).elim
theorem without_none {l : List RuleD} {s e : Int} (hf : foundB l s e = false) : withoutL l s e = l := by
  unfold withoutL
  rw [List.filter_eq_self]
  intro r hr
  obtain ⟨j, hj, rfl⟩ := List.mem_iff_getElem.1 hr
  have : ¬ hitI l s e < l.length := by simpa [foundB] using hf
  rw [hitI_min j (by omega) hj]
  rfl
def dropB (l : List RuleD) (s e : Int) : Bool := schedB l && foundB l s e
def dropL (l : List RuleD) (s e : Int) : List RuleD := if dropB l s e then withoutL l s e else []
theorem dropL_le (l : List RuleD) (s e : Int) : (dropL l s e).length ≤ l.length := by
  unfold dropL
  split
  · exact List.length_filter_le _ _
  · simp
theorem dropB_len {l : List RuleD} {s e : Int} (h : schedB l = true) : decide ((withoutL l s e).length = l.length) = !foundB l s e := by
  cases hf : foundB l s e
  · rw [without_none hf]; simp
  · rw [without_at h hf]
    have := found_lt hf
    simp; omega

end Go.Proofs.Ytnohonedfeacdaa
