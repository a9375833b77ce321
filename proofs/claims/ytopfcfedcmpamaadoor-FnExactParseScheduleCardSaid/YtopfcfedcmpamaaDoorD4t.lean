/- Plain words on the texts of schedules. -/
import Derived.Test.YtopfcfedcmpamaaDoorD4c
import Derived.Test.YtopfcfedcmpamaaDoorW1u
import Derived.Test.YtopfcfedcmpamaaDoorJn
namespace Go.Proofs.YtopfcfedcmpamaaDoor
set_option linter.unusedVariables false
set_option linter.unusedSimpArgs false
open Go.RowKit

def actT (a : Int) : ByteArray := if a = 1 then ⟨#[107]⟩ else if a = 2 then ⟨#[116]⟩ else ⟨#[100]⟩
theorem actT_size (a : Int) : (actT a).size = 1 := by
  unfold actT
  split
  · rfl
  · split <;> rfl
theorem actT_cut {a : Int} (h0 : 1 ≤ a) (h1 : a ≤ 3) : (⟨#[107, 116, 100]⟩ : ByteArray).extract (a - 1).toNat a.toNat = actT a := by
  obtain rfl | rfl | rfl : a = 1 ∨ a = 2 ∨ a = 3 := by omega
  · rfl
  · rfl
  · rfl
theorem litR1 : (ByteArray.mk #[46]).size = 1 := rfl
theorem litR2 : (ByteArray.mk #[43]).size = 1 := rfl
theorem litR3 : (ByteArray.mk #[32]).size = 1 := rfl
def spB : ByteArray := ⟨#[32]⟩
def rulT (r : RuleD) : ByteArray := numB r.s ++ ⟨#[46]⟩ ++ numB r.e ++ ⟨#[43]⟩ ++ numB r.d ++ actT r.a
def wrdK (l : List RuleD) (k : Nat) : List ByteArray := (l.take k).map rulT
def schK (l : List RuleD) (k : Nat) : ByteArray := joinV (wrdK l k) spB
def schT (l : List RuleD) : ByteArray := schK l l.length
theorem wrdK_zero (l : List RuleD) : wrdK l 0 = [] := by simp [wrdK]
theorem wrdK_len {l : List RuleD} {k : Nat} (h : k ≤ l.length) : (wrdK l k).length = k := by simp [wrdK]; omega
theorem wrdK_succ {l : List RuleD} {k : Nat} (h : k < l.length) : wrdK l (k + 1) = wrdK l k ++ [rulT l[k]] := by
  unfold wrdK
  rw [List.take_succ_eq_append_getElem h, List.map_append]
  rfl
theorem schK_zero (l : List RuleD) : schK l 0 = ⟨#[]⟩ := by unfold schK; rw [wrdK_zero]; rfl
theorem schK_end (l : List RuleD) : schK l l.length = schT l := rfl
theorem wrdK_take {l : List RuleD} {k : Nat} (h : k ≤ l.length) : wrdK l k = (wrdK l l.length).take k := by
  unfold wrdK
  rw [← List.map_take, List.take_length]
theorem schK_one {l : List RuleD} (h : 0 < l.length) : schK l (0 + 1) = (⟨#[]⟩ : ByteArray) ++ rulT l[0] := by
  unfold schK
  rw [wrdK_take (by omega), joinV_zero _ _ (by rw [wrdK_len (Nat.le_refl _)]; exact h)]
  refine ba_extJ ?_
  rw [ByteArray.data_append]
  simp [wrdK]
theorem schK_succ {l : List RuleD} {k : Nat} (h0 : 0 < k) (h : k < l.length) : schK l (k + 1) = schK l k ++ spB ++ rulT l[k] := by
  unfold schK
  rw [wrdK_take (by omega), joinV_succ _ _ k h0 (by rw [wrdK_len (Nat.le_refl _)]; exact h), ← wrdK_take (by omega)]
  simp [wrdK]
theorem rulT_size {r : RuleD} (h1 : (numB r.s).size ≤ 21) (h2 : (numB r.e).size ≤ 21) (h3 : (numB r.d).size ≤ 21) : (rulT r).size ≤ 66 := by
  unfold rulT
  simp only [ByteArray.size_append, litR1, litR2, actT_size]
  omega
theorem schK_size (l : List RuleD) (hb : ∀ i (hi : i < l.length), (rulT l[i]).size ≤ 66) : ∀ k, k ≤ l.length → (schK l k).size ≤ 67 * k
  | 0, _ => by rw [schK_zero]; exact Nat.le_refl _
  | 1, h => by
    have h1 := hb 0 (by omega)
    rw [schK_one (by omega), ByteArray.size_append]
    show 0 + _ ≤ _
    omega
  | k + 2, h => by
    have h1 := schK_size l hb (k + 1) (by omega)
    have h2 := hb (k + 1) (by omega)
    rw [schK_succ (by omega) (by omega), ByteArray.size_append, ByteArray.size_append]
    have h3 : spB.size = 1 := rfl
    omega
theorem sched_bd {l : List RuleD} (h : schedB l = true) : l.length ≤ 8 ∧ ∀ i (hi : i < l.length), (1 ≤ l[i].s ∧ l[i].s ≤ 99) ∧ (0 ≤ l[i].e ∧ l[i].e ≤ 9) ∧ (0 ≤ l[i].d ∧ l[i].d ≤ 20000) ∧ (1 ≤ l[i].a ∧ l[i].a ≤ 3) := by
  refine ⟨?_, fun i hi => ruleB_bd (schedB_rule h _ (List.getElem_mem hi))⟩
  simp [schedB] at h
  exact h.2
theorem sched_rulT {l : List RuleD} (h : schedB l = true) : ∀ i (hi : i < l.length), (rulT l[i]).size ≤ 66 := fun i hi => by
  obtain ⟨h1, h2, h3, h4⟩ := (sched_bd h).2 i hi
  exact rulT_size (numB_len _ (by omega) (by omega)) (numB_len _ (by omega) (by omega)) (numB_len _ (by omega) (by omega))
def schS (l : List RuleD) : ByteArray := if schedB l then schT l else ⟨#[]⟩

end Go.Proofs.YtopfcfedcmpamaaDoor
