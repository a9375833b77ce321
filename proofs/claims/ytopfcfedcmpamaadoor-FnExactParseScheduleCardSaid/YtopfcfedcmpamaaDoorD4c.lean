/- The strongest act, the longest period, the series of a schedule: the plain words. -/
import Derived.Test.YtopfcfedcmpamaaDoorW4c
import Derived.Test.YtopfcfedcmpamaaDoorHInt
namespace Go.Proofs.YtopfcfedcmpamaaDoor
set_option linter.unusedVariables false
set_option linter.unusedSimpArgs false
open Go.RowKit

def minK (l : List RuleD) (k : Nat) : Int := (l.take k).foldl (fun b r => min b r.a) (l.getD 0 ⟨0, 0, 0, 0⟩).a
def maxK (l : List RuleD) (k : Nat) : Int := (l.take k).foldl (fun b r => max b r.d) 0
theorem minK_succ {l : List RuleD} {k : Nat} (h : k < l.length) : minK l (k + 1) = min (minK l k) l[k].a := by
  unfold minK
  rw [List.take_succ_eq_append_getElem h, List.foldl_append]
  rfl
theorem minK_one {l : List RuleD} (h : 0 < l.length) : minK l 1 = l[0].a := by
  rw [minK_succ h]
  simp [minK, List.getD_eq_getElem?_getD, h]
theorem maxK_succ {l : List RuleD} {k : Nat} (h : k < l.length) : maxK l (k + 1) = max (maxK l k) l[k].d := by
  unfold maxK
  rw [List.take_succ_eq_append_getElem h, List.foldl_append]
  rfl
theorem minK_bd {l : List RuleD} (h : ∀ r ∈ l, 1 ≤ r.a ∧ r.a ≤ 3) (h0 : 0 < l.length) (k : Nat) (hk : k ≤ l.length) : 1 ≤ minK l k ∧ minK l k ≤ 3 := by
  induction k with
  | zero => simp [minK, List.getD_eq_getElem?_getD, h0]; exact h _ (List.getElem_mem h0)
  | succ k ih =>
    rw [minK_succ (by omega)]
    have h1 := ih (by omega)
    have h2 := h l[k] (List.getElem_mem _)
    omega
theorem maxK_bd {l : List RuleD} (h : ∀ r ∈ l, 0 ≤ r.d ∧ r.d ≤ 20000) (k : Nat) (hk : k ≤ l.length) : 0 ≤ maxK l k ∧ maxK l k ≤ 20000 := by
  induction k with
  | zero => simp [maxK]
  | succ k ih =>
    rw [maxK_succ (by omega)]
    have h1 := ih (by omega)
    have h2 := h l[k] (List.getElem_mem _)
    omega

theorem schedB_rule {l : List RuleD} (h : schedB l = true) : ∀ r ∈ l, ruleB r.s r.e r.d r.a = true := by
  intro r hr
  obtain ⟨i, hi, rfl⟩ := List.mem_iff_getElem.1 hr
  simp [schedB] at h
  have h1 := h.1 i hi
  rcases ruleAtB_cases hi with ⟨h2, h3⟩ | ⟨h2, _⟩ | ⟨h2, _⟩ | ⟨h2, _⟩
  · rw [h3] at h1; cases h1
  · exact h2
  · exact h2
  · exact h2
theorem ruleB_bd {s e d a : Int} (h : ruleB s e d a = true) : (1 ≤ s ∧ s ≤ 99) ∧ (0 ≤ e ∧ e ≤ 9) ∧ (0 ≤ d ∧ d ≤ 20000) ∧ (1 ≤ a ∧ a ≤ 3) := by
  simp [ruleB] at h
  omega
theorem forS_bd {l : List RuleD} {s : Int} (h : schedB l = true) : ∀ r ∈ forS l s, ((1 ≤ r.s ∧ r.s ≤ 99) ∧ (0 ≤ r.e ∧ r.e ≤ 9) ∧ (0 ≤ r.d ∧ r.d ≤ 20000) ∧ (1 ≤ r.a ∧ r.a ≤ 3)) ∧ r.s = s := by
  intro r hr
  simp [forS] at hr
  exact ⟨ruleB_bd (schedB_rule h r hr.1), hr.2⟩
theorem forS_id {l : List RuleD} {s : Int} (h : schedB l = true) (hi : isIdB s = false) : forS l s = [] := by
  rcases hf : forS l s with _ | ⟨r, t⟩
  · rfl
  · have h1 := forS_bd (s := s) h r (by rw [hf]; simp)
    simp [isIdB] at hi
    omega
theorem forS_le (l : List RuleD) (s : Int) : (forS l s).length ≤ l.length := List.length_filter_le _ _

/-- the list over which the strongest act and the longest period are taken -/
theorem rulesForL_eq {l : List RuleD} {s : Int} (h : schedB l = true) : rulesForL l s = forS l s := by
  unfold rulesForL
  cases hi : isIdB s
  · simp [h, forS_id h hi]
  · simp [h]
def strongF (l : List RuleD) (s : Int) : Int := if (schedB l && decide (0 < (forS l s).length)) = true then minK (forS l s) (forS l s).length else 0
def longF (l : List RuleD) (s : Int) : Int := if (schedB l && decide (0 < (forS l s).length)) = true then maxK (forS l s) (forS l s).length else 0
def someB (l : List RuleD) (s : Int) : Bool := schedB l && decide (0 < (forS l s).length)

/-- the series, each once -/
def serK (l : List RuleD) : Nat → List Int
  | 0 => []
  | k + 1 => match l[k]? with
    | some r => if hasB (serK l k) r.s = true then serK l k else serK l k ++ [r.s]
    | none => serK l k
theorem serK_le (l : List RuleD) (k : Nat) : (serK l k).length ≤ k := by
  induction k with
  | zero => simp [serK]
  | succ k ih =>
    unfold serK
    split
    · split
      · omega
      · simp; omega
    · omega
theorem serK_yes {l : List RuleD} {k : Nat} (h : k < l.length) (hc : hasB (serK l k) l[k].s = true) : serK l (k + 1) = serK l k := by
  conv => lhs; unfold serK
  simp only [List.getElem?_eq_getElem h]
  rw [if_pos hc]
theorem serK_no {l : List RuleD} {k : Nat} (h : k < l.length) (hc : hasB (serK l k) l[k].s = false) : serK l (k + 1) = serK l k ++ [l[k].s] := by
  conv => lhs; unfold serK
  simp only [List.getElem?_eq_getElem h]
  rw [if_neg (by rw [hc]; exact Bool.false_ne_true)]
def seriesL (l : List RuleD) : List Int := if schedB l = true then serK l l.length else []
theorem seriesL_le (l : List RuleD) : (seriesL l).length ≤ l.length := by
  unfold seriesL
  split
  · exact serK_le l l.length
  · simp

end Go.Proofs.YtopfcfedcmpamaaDoor
