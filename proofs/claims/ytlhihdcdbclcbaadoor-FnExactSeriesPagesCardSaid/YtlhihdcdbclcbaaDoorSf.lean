/- Rows of one's own into which an element is put: what slices.Insert does. -/
import Derived.Test.YtlhihdcdbclcbaaDoorSd
import Derived.Lib.AppendZerosOnto
import Derived.Lib.Overlaps
namespace Go.Proofs.YtlhihdcdbclcbaaDoor
set_option linter.unusedVariables false
set_option linter.unusedSimpArgs false
open Go.RowKit
attribute [local go_sem] Aft.cell

/-- copy between slices of elements of k cells: all is read ahead of the first write. -/
theorem run_copy_k {P : Program} (w : World) (dT sT ty elem : TypeId) (k : Nat) (b o dLen dCap : Nat) (a : Addr) (sLen sCap : Nat) (cs : List Value)
    (hu : P.underlying dT = some (.slice elem)) (hs : (P.info? elem).map (·.size) = some k) (hn : cs.length = Nat.min sLen dLen * k)
    (hsrc : ∀ j v, cs[j]? = some v → w.cell? (a.add j) = some v) (hc : ∀ j, j < cs.length → (w.cell? ⟨b, o + j, none⟩).isSome = true) (hf : ∀ j, j < cs.length → w.frozen? ⟨b, o + j, none⟩ = false) (h1 : ∀ v ∈ cs, v.oneCell' = true) :
    (Builtin.copy_ #[dT, sT] ty #[.slice (some ⟨b, o, none⟩) dLen dCap, .slice (some a) sLen sCap]).run P w = .ok (goInt (Nat.min sLen dLen)) (w.setCells b o cs) := by
  have hl := run_loadCells_list (P := P) w a cs hsrc
  have hst := run_storeCells_cells (P := P) b o cs 0 w (by simpa using hc) (by simpa using hf) h1
  cases hq : P.info? elem with
  | none => simp [hq] at hs
  | some i =>
    have hi : i.size = k := by simpa [hq] using hs
    simp [Builtin.copy_, run_underlying hu, Builtin.lenOf, Builtin.firstCells, sizeOf, typeInfo, hq, hi, ← hn, hl, hst]

section
variable {α : Type} {w : World} {t : TypeId} {en : α → List Value} {sz g : Nat} {l : List α}
theorem ins_cells (hen : ∀ a, (en a).length = sz) (i : Nat) (hi : i ≤ l.length) (x : α) (cur c2 : Array Value) (hsz : (l.length + 1) * sz ≤ cur.size) (h2 : c2.size = cur.size)
    (htake : ∀ j, j < i * sz → cur[j]? = ((l.take i).flatMap en)[j]?)
    (hget : ∀ j, c2[j]? = if i * sz ≤ j ∧ j < i * sz + sz then (en x)[j - i * sz]? else if (i + 1) * sz ≤ j ∧ j < (i + 1) * sz + (l.length - i) * sz then ((l.drop i).flatMap en)[j - (i + 1) * sz]? else cur[j]?) :
    c2.toList.take ((l.length + 1) * sz) = (l.take i ++ x :: l.drop i).flatMap en := by
  have e1 : (i + 1) * sz = i * sz + sz := by rw [Nat.add_mul]; omega
  have e2 : (i + 1) * sz + (l.length - i) * sz = (l.length + 1) * sz := by rw [← Nat.add_mul]; congr 1; omega
  have hti : ((l.take i).flatMap en).length = i * sz := by rw [flat_len hen, List.length_take]; congr 1; omega
  have hdl : ((l.drop i).flatMap en).length = (l.length - i) * sz := by rw [flat_len hen, List.length_drop]
  apply List.ext_getElem?
  intro j
  rw [List.getElem?_take]
  by_cases hj : j < (l.length + 1) * sz
  · rw [if_pos hj, Array.getElem?_toList, hget, List.flatMap_append, List.flatMap_cons]
    by_cases h3 : j < i * sz
    · rw [if_neg (by omega), if_neg (by omega), List.getElem?_append_left (by omega)]
      exact htake j h3
    · rw [List.getElem?_append_right (by omega), hti]
      by_cases h4 : j < i * sz + sz
      · rw [if_pos ⟨by omega, h4⟩, List.getElem?_append_left (by rw [hen]; omega)]
      · rw [if_neg (by omega), if_pos (by omega), List.getElem?_append_right (by rw [hen]; omega), hen]
        congr 1; omega
  · rw [if_neg hj, List.getElem?_eq_none]
    rw [List.flatMap_append, List.flatMap_cons, List.length_append, List.length_append, hti, hen, hdl]
    omega
/-- The place is made first, then the element is laid in. -/
theorem ins_room (hen : ∀ a, (en a).length = sz) (i : Nat) (hi : i ≤ l.length) (x : α) (cur : Array Value) (h : Blk w g t cur) (hsz : (l.length + 1) * sz ≤ cur.size)
    (htake : ∀ j, j < i * sz → cur[j]? = ((l.take i).flatMap en)[j]?) :
    ∃ c2, Blk ((w.setCells g ((i + 1) * sz) ((l.drop i).flatMap en)).setCells g (i * sz) (en x)) g t c2 ∧ c2.size = cur.size ∧ c2.toList.take ((l.length + 1) * sz) = (l.take i ++ x :: l.drop i).flatMap en := by
  have e1 : (i + 1) * sz = i * sz + sz := by rw [Nat.add_mul]; omega
  have e2 : (i + 1) * sz + (l.length - i) * sz = (l.length + 1) * sz := by rw [← Nat.add_mul]; congr 1; omega
  have hdl : ((l.drop i).flatMap en).length = (l.length - i) * sz := by rw [flat_len hen, List.length_drop]
  obtain ⟨c1, b1, s1, g1⟩ := setCells_blk ((l.drop i).flatMap en) ((i + 1) * sz) w cur h (by rw [hdl]; omega)
  obtain ⟨c2, b2, s2, g2⟩ := setCells_blk (en x) (i * sz) _ c1 b1 (by rw [hen, s1]; omega)
  refine ⟨c2, b2, s2.trans s1, ins_cells hen i hi x cur c2 hsz (s2.trans s1) htake fun j => ?_⟩
  rw [g2, hen, g1, hdl]
theorem ins_grow (hen : ∀ a, (en a).length = sz) (i : Nat) (hi : i ≤ l.length) (x : α) (cur : Array Value) (h : Blk w g t cur) (hsz : (l.length + 1) * sz ≤ cur.size)
    (htake : ∀ j, j < i * sz → cur[j]? = ((l.take i).flatMap en)[j]?) :
    ∃ c2, Blk ((w.setCells g (i * sz) (en x)).setCells g ((i + 1) * sz) ((l.drop i).flatMap en)) g t c2 ∧ c2.size = cur.size ∧ c2.toList.take ((l.length + 1) * sz) = (l.take i ++ x :: l.drop i).flatMap en := by
  have e1 : (i + 1) * sz = i * sz + sz := by rw [Nat.add_mul]; omega
  have e2 : (i + 1) * sz + (l.length - i) * sz = (l.length + 1) * sz := by rw [← Nat.add_mul]; congr 1; omega
  have hdl : ((l.drop i).flatMap en).length = (l.length - i) * sz := by rw [flat_len hen, List.length_drop]
  obtain ⟨c1, b1, s1, g1⟩ := setCells_blk (en x) (i * sz) w cur h (by rw [hen]; omega)
  obtain ⟨c2, b2, s2, g2⟩ := setCells_blk ((l.drop i).flatMap en) ((i + 1) * sz) _ c1 b1 (by rw [hdl, s1]; omega)
  refine ⟨c2, b2, s2.trans s1, ins_cells hen i hi x cur c2 hsz (s2.trans s1) htake fun j => ?_⟩
  rw [g2, hdl, g1, hen]
  by_cases h1 : i * sz ≤ j ∧ j < i * sz + sz
  · rw [if_neg (by omega), if_pos h1, if_pos h1]
  · rw [if_neg h1, if_neg h1]
end

end Go.Proofs.YtlhihdcdbclcbaaDoor
