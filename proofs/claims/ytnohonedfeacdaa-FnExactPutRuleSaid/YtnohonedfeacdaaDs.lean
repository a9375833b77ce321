/- Plain words on schedules: the place of a rule; PutRule. -/
import Derived.Test.YtnohonedfeacdaaD4e
namespace Go.Proofs.Ytnohonedfeacdaa
set_option linter.unusedVariables false
set_option linter.unusedSimpArgs false
open Go.RowKit

/-- the place of the first rule that does not stand before a key -/
def plcR (l : List RuleD) (s e : Int) : Nat := l.findIdx fun x => !bef4 x.s x.e s e
theorem plcR_le (l : List RuleD) (s e : Int) : plcR l s e ≤ l.length := List.findIdx_le_length
theorem plcR_at {l : List RuleD} {s e : Int} (i : Nat) (hi : i ≤ l.length) (h1 : ∀ j (hj : j < l.length), j < i → bef4 l[j].s l[j].e s e = true) (h2 : ∀ (h : i < l.length), bef4 l[i].s l[i].e s e = false) : plcR l s e = i := by
  unfold plcR
  by_cases h : i < l.length
  · rw [List.findIdx_eq h]
    exact ⟨by rw [h2 h]; rfl, fun j hj => by rw [h1 j (by omega) hj]; rfl⟩
  · obtain rfl : i = l.length := by omega
    rw [List.findIdx_eq_length]
    intro x hx
    obtain ⟨j, hj, rfl⟩ := List.mem_iff_getElem.1 hx
    rw [h1 j hj hj]; rfl
theorem bef_down {l : List RuleD} (h : schedB l = true) {s e : Int} {i j : Nat} (hj : j < l.length) (hij : i ≤ j) (hb : bef4 l[j].s l[j].e s e = true) : bef4 (l[i]'(by omega)).s (l[i]'(by omega)).e s e = true := by
  rcases Nat.lt_or_eq_of_le hij with hlt | rfl
  · obtain ⟨d, rfl⟩ : ∃ d, j = i + d + 1 := ⟨j - i - 1, by omega⟩
    exact bef4_trans (sched_lt h i d hj) hb
  · exact hb
theorem bef_up {l : List RuleD} (h : schedB l = true) {s e : Int} {i j : Nat} (hj : j < l.length) (hij : i ≤ j) (hb : bef4 (l[i]'(by omega)).s (l[i]'(by omega)).e s e = false) : bef4 l[j].s l[j].e s e = false := by
  cases hc : bef4 l[j].s l[j].e s e
  · rfl
  · rw [bef_down h hj hij hc] at hb; cases hb
theorem bef_hit {r : RuleD} {s e : Int} (h : hitB s e r = true) : bef4 r.s r.e s e = false := by
  simp [hitB] at h
  simp [bef4, h.1, h.2]
/-- where a rule of that key stands, it stands in its place -/
theorem plcR_found {l : List RuleD} (h : schedB l = true) {s e : Int} (hf : foundB l s e = true) : plcR l s e = hitI l s e := by
  have hi := found_lt hf
  refine plcR_at _ (by omega) (fun j hj hji => ?_) (fun _ => bef_hit (hitI_hit hi))
  obtain ⟨d, hd⟩ : ∃ d, hitI l s e = j + d + 1 := ⟨hitI l s e - j - 1, by omega⟩
  have h1 := sched_lt h j d (by omega)
  have h2 := hitI_hit hi
  simp only [hitB, Bool.and_eq_true, beq_iff_eq] at h2
  have h3 : l[hitI l s e] = l[j + d + 1]'(by omega) := by congr 1
  rw [h3] at h2
  rwa [h2.1, h2.2] at h1
theorem hit_found {l : List RuleD} {s e : Int} (i : Nat) (hi : i < l.length) (h : hitB s e l[i] = true) : foundB l s e = true := by
  unfold foundB hitI
  rw [decide_eq_true_eq, List.findIdx_lt_length]
  exact ⟨l[i], List.getElem_mem hi, h⟩
/-- the test behind the search -/
theorem plc_test {l : List RuleD} (h : schedB l = true) {s e : Int} (hi : plcR l s e < l.length) : decide (cmp4 l[plcR l s e].s l[plcR l s e].e s e = 0) = foundB l s e := by
  cases hf : foundB l s e
  · rw [decide_eq_false_iff_not]
    intro hc
    rw [cmp4_eq] at hc
    rw [hit_found _ hi (by simp [hitB, hc.1, hc.2])] at hf
    cases hf
  · rw [decide_eq_true_eq, cmp4_eq]
    have h2 := hitI_hit (found_lt hf)
    have h3 : l[plcR l s e] = l[hitI l s e]'(found_lt hf) := by congr 1; exact plcR_found h hf
    rw [h3]
    simpa [hitB] using h2
theorem plc_none {l : List RuleD} (h : schedB l = true) {s e : Int} (hi : plcR l s e = l.length) : foundB l s e = false := by
  cases hf : foundB l s e
  · rfl
  · have h1 := found_lt hf
    have h2 := plcR_found h hf
    omega

def putO (l : List RuleD) (r : RuleD) : List RuleD :=
  if foundB l r.s r.e then l.take (plcR l r.s r.e) ++ r :: l.drop (plcR l r.s r.e + 1) else l.take (plcR l r.s r.e) ++ r :: l.drop (plcR l r.s r.e)
theorem putO_set {l : List RuleD} (h : schedB l = true) {r : RuleD} (hf : foundB l r.s r.e = true) : putO l r = l.set (plcR l r.s r.e) r := by
  rw [putO, if_pos hf, List.set_eq_take_append_cons_drop, if_pos (by rw [plcR_found h hf]; exact found_lt hf)]
theorem putO_len (l : List RuleD) (r : RuleD) : (putO l r).length ≤ l.length + 1 := by
  have := plcR_le l r.s r.e
  unfold putO
  split
  · simp; omega
  · simp; omega
theorem putO_spec {l : List RuleD} (h : schedB l = true) (r : RuleD) :
    (withoutL l r.s r.e).take (plcR (withoutL l r.s r.e) r.s r.e) ++ r :: (withoutL l r.s r.e).drop (plcR (withoutL l r.s r.e) r.s r.e) = putO l r := by
  cases hf : foundB l r.s r.e
  · rw [without_none hf, putO, hf]; rfl
  · have hi := found_lt hf
    have hp := plcR_found h hf
    have hlen : (l.take (hitI l r.s r.e)).length = hitI l r.s r.e := by simp; omega
    have h2 : plcR (withoutL l r.s r.e) r.s r.e = hitI l r.s r.e := by
      rw [without_at h hf]
      refine plcR_at _ (by simp; omega) (fun j hj hji => ?_) (fun hh => ?_)
      · rw [List.getElem_append_left (by omega), List.getElem_take]
        have hpl : j < plcR l r.s r.e := by omega
        have := List.not_of_lt_findIdx hpl
        simpa using this
      · rw [List.getElem_append_right (by omega), List.getElem_drop]
        exact bef_up h (by simp at hh ⊢; omega) (i := hitI l r.s r.e) (by omega) (bef_hit (hitI_hit hi))
    rw [h2, putO, if_pos hf, hp, without_at h hf, List.take_left' hlen, List.drop_left' hlen]
def rulB (r : RuleD) : Bool := ruleB r.s r.e r.d r.a
def putB (l : List RuleD) (r : RuleD) : Bool := schedB l && rulB r && schedB (putO l r)
def putL (l : List RuleD) (r : RuleD) : List RuleD := if putB l r then putO l r else []
theorem putL_le (l : List RuleD) (r : RuleD) : (putL l r).length ≤ l.length + 1 := by
  unfold putL
  split
  · exact putO_len l r
  · simp

end Go.Proofs.Ytnohonedfeacdaa
