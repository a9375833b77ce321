/- Plain words: how many files and pages each series has. -/
import Derived.Test.YtlhihdcdbclcbaaDoorL
import Derived.Test.YtlhihdcdbclcbaaDoorD5
namespace Go.Proofs.YtlhihdcdbclcbaaDoor
set_option linter.unusedVariables false
set_option linter.unusedSimpArgs false
open Go.RowKit

structure Tri where
  s : Int
  n : Int
  p : Int
def inSer (l : List FileD) (s : Int) : List FileD := l.filter fun f => f.series == s
def sumP (l : List FileD) : Int := (l.map (·.pages)).foldl (· + ·) 0
def cntS (l : List FileD) (s : Int) : Int := ((inSer l s).length : Int)
def sumS (l : List FileD) (s : Int) : Int := sumP (inSer l s)
/-- the row of a series; none where it has no files -/
def rowOf (l : List FileD) (s : Int) : Option Tri := if 0 < cntS l s then some ⟨s, cntS l s, sumS l s⟩ else none
/-- the rows of n series behind a -/
def serR (l : List FileD) (a n : Nat) : List Tri := (List.range' a n).filterMap fun (i : Nat) => rowOf l ((i : Int) + 1)
def serP (l : List FileD) : List Tri := serR l 0 99
theorem serR_zero (l : List FileD) (a : Nat) : serR l a 0 = [] := rfl
theorem serR_succ (l : List FileD) (k : Nat) : serR l 0 (k + 1) = serR l 0 k ++ (rowOf l ((k : Int) + 1)).toList := by
  unfold serR
  rw [List.range'_concat, List.filterMap_append]
  congr 1
  simp only [Nat.zero_add, Nat.one_mul, List.filterMap_cons, List.filterMap_nil]
  cases rowOf l ((k : Int) + 1) <;> rfl
theorem serR_one (l : List FileD) (a : Nat) : serR l a 1 = (rowOf l ((a : Int) + 1)).toList := by
  unfold serR
  simp only [List.range'_one, List.filterMap_cons, List.filterMap_nil]
  cases rowOf l ((a : Int) + 1) <;> rfl
theorem serR_add (l : List FileD) (a m n : Nat) : serR l a (m + n) = serR l a m ++ serR l (a + m) n := by
  unfold serR
  rw [← List.filterMap_append, List.range'_append_1]
theorem inSer_snoc_no {l : List FileD} {f : FileD} {s : Int} (h : f.series ≠ s) : inSer (l ++ [f]) s = inSer l s := by
  unfold inSer
  rw [List.filter_append, List.filter_cons, if_neg (by simpa using h)]
  simp
theorem inSer_snoc_yes {l : List FileD} {f : FileD} {s : Int} (h : f.series = s) : inSer (l ++ [f]) s = inSer l s ++ [f] := by
  unfold inSer
  rw [List.filter_append, List.filter_cons, if_pos (by simpa using h)]
  simp
theorem rowOf_no {l : List FileD} {f : FileD} {s : Int} (h : f.series ≠ s) : rowOf (l ++ [f]) s = rowOf l s := by
  unfold rowOf cntS sumS
  rw [inSer_snoc_no h]
theorem sumP_snoc (l : List FileD) (f : FileD) : sumP (l ++ [f]) = sumP l + f.pages := by
  unfold sumP
  rw [List.map_append, List.foldl_append]
  rfl
theorem cntS_yes (l : List FileD) (f : FileD) : cntS (l ++ [f]) f.series = cntS l f.series + 1 := by
  unfold cntS
  rw [inSer_snoc_yes rfl, List.length_append]
  rfl
theorem sumS_yes (l : List FileD) (f : FileD) : sumS (l ++ [f]) f.series = sumS l f.series + f.pages := by
  unfold sumS
  rw [inSer_snoc_yes rfl, sumP_snoc]
theorem cntS_nonneg (l : List FileD) (s : Int) : 0 ≤ cntS l s := by unfold cntS; omega
theorem rowOf_yes (l : List FileD) (f : FileD) : rowOf (l ++ [f]) f.series = some ⟨f.series, cntS l f.series + 1, sumS l f.series + f.pages⟩ := by
  have := cntS_nonneg l f.series
  unfold rowOf
  rw [cntS_yes, sumS_yes, if_pos (by omega)]
theorem sumS_zero {l : List FileD} {s : Int} (h : ¬ 0 < cntS l s) : cntS l s = 0 ∧ sumS l s = 0 := by
  have h0 := cntS_nonneg l s
  refine ⟨by omega, ?_⟩
  have : inSer l s = [] := List.length_eq_zero_iff.1 (by unfold cntS at h; omega)
  unfold sumS
  rw [this]
  rfl
theorem serR_mem {l : List FileD} {a n : Nat} {t : Tri} (h : t ∈ serR l a n) : (a : Int) < t.s ∧ t.s ≤ (a : Int) + n := by
  unfold serR at h
  obtain ⟨i, hi, he⟩ := List.mem_filterMap.1 h
  rw [List.mem_range'_1] at hi
  unfold rowOf at he
  split at he
  · cases he
    show (a : Int) < (i : Int) + 1 ∧ (i : Int) + 1 ≤ (a : Int) + n
    omega
  · cases he
theorem filterMap_same {α β : Type} {f g : α → Option β} : ∀ {l : List α}, (∀ x ∈ l, f x = g x) → l.filterMap f = l.filterMap g
  | [], _ => rfl
  | x :: l, h => by
    rw [List.filterMap_cons, List.filterMap_cons, h x (by simp), filterMap_same (l := l) fun y hy => h y (by simp [hy])]
theorem serR_no {l : List FileD} {f : FileD} {a n : Nat} (h : f.series ≤ a ∨ (a : Int) + n < f.series) : serR (l ++ [f]) a n = serR l a n := by
  unfold serR
  refine filterMap_same fun i hi => ?_
  rw [List.mem_range'_1] at hi
  exact rowOf_no (by omega)
/-- One file more: the rows ahead of its series, its own row, the rows behind. -/
theorem ser_step (l : List FileD) (f : FileD) (h1 : 1 ≤ f.series) (h2 : f.series ≤ 99) : ∃ X Z : List Tri, serP l = X ++ ((rowOf l f.series).toList ++ Z) ∧
    serP (l ++ [f]) = X ++ ⟨f.series, cntS l f.series + 1, sumS l f.series + f.pages⟩ :: Z ∧ (∀ t ∈ X, t.s < f.series) ∧ (∀ t ∈ Z, f.series < t.s) := by
  obtain ⟨k, hk⟩ : ∃ k : Nat, (k : Int) + 1 = f.series := ⟨(f.series - 1).toNat, by omega⟩
  have hs : ∀ m : List FileD, serP m = serR m 0 k ++ ((rowOf m f.series).toList ++ serR m (k + 1) (98 - k)) := fun m => by
    have e : 99 = k + (1 + (98 - k)) := by omega
    unfold serP
    rw [e, serR_add, serR_add, serR_one]
    simp only [Nat.zero_add, hk]
  refine ⟨serR l 0 k, serR l (k + 1) (98 - k), hs l, ?_, fun t ht => ?_, fun t ht => ?_⟩
  · rw [hs, serR_no (by omega), serR_no (by omega), rowOf_yes]
    rfl
  · have := serR_mem ht
    omega
  · have := serR_mem ht
    omega

theorem inSer_le (l : List FileD) (s : Int) : (inSer l s).length ≤ l.length := List.length_filter_le _ _
theorem fold_bd : ∀ (l : List FileD) (a : Int), (∀ f ∈ l, 0 ≤ f.pages ∧ f.pages ≤ 5000) → a ≤ (l.map (·.pages)).foldl (· + ·) a ∧ (l.map (·.pages)).foldl (· + ·) a ≤ a + 5000 * (l.length : Int)
  | [], a, _ => by simp
  | f :: l, a, h => by
    have h1 := fold_bd l (a + f.pages) fun x hx => h x (by simp [hx])
    have h2 := h f (by simp)
    rw [List.map_cons, List.foldl_cons, List.length_cons]
    omega
theorem sumP_bd (l : List FileD) (h : ∀ f ∈ l, 0 ≤ f.pages ∧ f.pages ≤ 5000) : 0 ≤ sumP l ∧ sumP l ≤ 5000 * (l.length : Int) := by
  have h1 := fold_bd l 0 h
  unfold sumP
  omega
theorem sumS_bd {l : List FileD} (h : filesB l = true) (k : Nat) (s : Int) : 0 ≤ cntS (l.take k) s ∧ cntS (l.take k) s ≤ 10 ∧ 0 ≤ sumS (l.take k) s ∧ sumS (l.take k) s ≤ 50000 := by
  have h1 := (files_all h).1
  have h2 : (inSer (l.take k) s).length ≤ 10 := Nat.le_trans (inSer_le _ _) (by rw [List.length_take]; omega)
  have h3 := sumP_bd (inSer (l.take k) s) fun f hf => by
    have hm : f ∈ l := List.mem_of_mem_take (List.mem_filter.1 hf).1
    obtain ⟨i, hi, rfl⟩ := List.mem_iff_getElem.1 hm
    have h4 := file_of h hi
    simp [fileB, inB] at h4
    omega
  unfold cntS sumS
  omega
theorem ser_bd {l : List FileD} (h : filesB l = true) {k : Nat} (hk : k < l.length) : 1 ≤ l[k].series ∧ l[k].series ≤ 99 ∧ 0 ≤ l[k].pages ∧ l[k].pages ≤ 5000 := by
  have h4 := file_of h hk
  simp [fileB, inB] at h4
  omega
def serL (l : List FileD) : List Tri := if filesB l then serP l else []

end Go.Proofs.YtlhihdcdbclcbaaDoor
