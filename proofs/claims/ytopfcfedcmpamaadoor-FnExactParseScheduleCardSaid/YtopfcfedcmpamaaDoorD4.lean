/- Rules and schedules: the plain words. -/
import Derived.Test.YtopfcfedcmpamaaDoorL
import Derived.Test.YtopfcfedcmpamaaDoorC
import Derived.Test.YtopfcfedcmpamaaDoorW4
namespace Go.Proofs.YtopfcfedcmpamaaDoor
set_option linter.unusedVariables false
set_option linter.unusedSimpArgs false
open Go.RowKit

def cmp4 (s1 e1 s2 e2 : Int) : Int := orI (cmpI s1 s2) (cmpI e1 e2)
def bef4 (s1 e1 s2 e2 : Int) : Bool := decide (s1 < s2) || (decide (s1 = s2) && decide (e1 < e2))
theorem cmp4_lt {s1 e1 s2 e2 : Int} : cmp4 s1 e1 s2 e2 < 0 ↔ bef4 s1 e1 s2 e2 = true := by
  unfold cmp4 orI cmpI bef4
  simp
  by_cases h1 : s1 < s2
  · simp [h1]
  · by_cases h2 : s2 < s1
    · simp [h1, h2]; omega
    · have h3 : s1 = s2 := by omega
      subst h3
      simp
      by_cases h4 : e1 < e2
      · simp [h4]
      · by_cases h5 : e2 < e1
        · simp [h4, h5]
        · simp [h4, h5]
theorem cmp4_ge {s1 e1 s2 e2 : Int} : decide (0 ≤ cmp4 s1 e1 s2 e2) = !bef4 s1 e1 s2 e2 := by
  have h := @cmp4_lt s1 e1 s2 e2
  cases hb : bef4 s1 e1 s2 e2
  · simp; by_cases hc : cmp4 s1 e1 s2 e2 < 0
    · rw [h.1 hc] at hb; cases hb
    · omega
  · simp; exact h.2 hb
theorem cmp4_eq {s1 e1 s2 e2 : Int} : cmp4 s1 e1 s2 e2 = 0 ↔ s1 = s2 ∧ e1 = e2 := by
  unfold cmp4 orI cmpI
  by_cases h1 : s1 < s2
  · simp [h1]; omega
  · by_cases h2 : s2 < s1
    · simp [h1, h2]; omega
    · have h3 : s1 = s2 := by omega
      subst h3
      simp
      by_cases h4 : e1 < e2
      · simp [h4]; omega
      · by_cases h5 : e2 < e1
        · simp [h4, h5]; omega
        · simp [h4, h5]; omega

/-- the rule ahead of place k -/
def prv (l : List RuleD) (k : Nat) : RuleD := l.getD (k - 1) ⟨0, 0, 0, 0⟩
theorem prv_eq {l : List RuleD} {k : Nat} (h : k - 1 < l.length) : l[k - 1] = prv l k := by simp [prv, List.getD_eq_getElem?_getD, h]
/-- the rule at k is valid in its place -/
def ruleAtB (l : List RuleD) (i : Nat) : Bool :=
  match l[i]? with
  | some r => ruleB r.s r.e r.d r.a && !(decide (0 < i) && !bef4 (prv l i).s (prv l i).e r.s r.e)
  | none => true
def schedB (l : List RuleD) : Bool := (List.range l.length).all (ruleAtB l) && decide (l.length ≤ 8)
theorem ruleAtB_cases {l : List RuleD} {k : Nat} (hlt : k < l.length) :
    (ruleB l[k].s l[k].e l[k].d l[k].a = false ∧ ruleAtB l k = false) ∨
    (ruleB l[k].s l[k].e l[k].d l[k].a = true ∧ decide (0 < k) = false ∧ ruleAtB l k = true) ∨
    (ruleB l[k].s l[k].e l[k].d l[k].a = true ∧ decide (0 < k) = true ∧ bef4 (prv l k).s (prv l k).e l[k].s l[k].e = false ∧ ruleAtB l k = false) ∨
    (ruleB l[k].s l[k].e l[k].d l[k].a = true ∧ decide (0 < k) = true ∧ bef4 (prv l k).s (prv l k).e l[k].s l[k].e = true ∧ ruleAtB l k = true) := by
  have e : ruleAtB l k = (ruleB l[k].s l[k].e l[k].d l[k].a && !(decide (0 < k) && !bef4 (prv l k).s (prv l k).e l[k].s l[k].e)) := by
    simp [ruleAtB, hlt]
  rw [e]
  cases ruleB l[k].s l[k].e l[k].d l[k].a <;> cases decide (0 < k) <;> cases bef4 (prv l k).s (prv l k).e l[k].s l[k].e <;> simp
theorem schedB_bad {l : List RuleD} (i : Nat) (hi : i < l.length) (h : ruleAtB l i = false) : schedB l = false := by
  have : (List.range l.length).all (ruleAtB l) = false := by
    rw [List.all_eq_false]
    exact ⟨i, List.mem_range.2 hi, by simp [h]⟩
  simp [schedB, this]
theorem schedB_end {l : List RuleD} (ha : ∀ i, i < l.length → ruleAtB l i = true) : schedB l = decide (l.length ≤ 8) := by
  have : (List.range l.length).all (ruleAtB l) = true := by
    rw [List.all_eq_true]
    exact fun i hi => ha i (List.mem_range.1 hi)
  simp [schedB, this]

/-- all rules for a series -/
def forS (l : List RuleD) (s : Int) : List RuleD := l.filter fun r => r.s == s
def forK (l : List RuleD) (s : Int) (k : Nat) : List RuleD := forS (l.take k) s
theorem forK_le (l : List RuleD) (s : Int) (k : Nat) : (forK l s k).length ≤ l.length :=
  Nat.le_trans (List.length_filter_le _ _) (by simp; omega)
theorem forK_end (l : List RuleD) (s : Int) : forK l s l.length = forS l s := by simp [forK]
theorem forK_yes {l : List RuleD} {s : Int} {k : Nat} (h : k < l.length) (hs : (l[k].s == s) = true) : forK l s (k + 1) = forK l s k ++ [l[k]] := by
  unfold forK forS
  rw [List.take_succ_eq_append_getElem h, List.filter_append, List.filter_cons, if_pos hs, List.filter_nil]
theorem forK_no {l : List RuleD} {s : Int} {k : Nat} (h : k < l.length) (hs : (l[k].s == s) = false) : forK l s (k + 1) = forK l s k := by
  unfold forK forS
  rw [List.take_succ_eq_append_getElem h, List.filter_append, List.filter_cons, if_neg (by rw [hs]; exact Bool.false_ne_true), List.filter_nil, List.append_nil]

end Go.Proofs.YtopfcfedcmpamaaDoor
