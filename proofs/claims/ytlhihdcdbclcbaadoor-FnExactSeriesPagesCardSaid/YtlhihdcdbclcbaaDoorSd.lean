/- Rows of one's own that are written anew in part: what slices.Delete does. -/
import Derived.Test.YtlhihdcdbclcbaaDoorSl
import Derived.Laws.IdiomCopy
import Derived.Deep.RegionLaw
namespace Go.Proofs.YtlhihdcdbclcbaaDoor
set_option linter.unusedVariables false
set_option linter.unusedSimpArgs false
open Go.RowKit
attribute [local go_sem] Aft.cell

theorem setCells_blk {g : Nat} {t : TypeId} : ∀ (vs : List Value) (o : Nat) (w : World) (cur : Array Value), Blk w g t cur → o + vs.length ≤ cur.size →
    ∃ cur', Blk (w.setCells g o vs) g t cur' ∧ cur'.size = cur.size ∧ ∀ j, cur'[j]? = if o ≤ j ∧ j < o + vs.length then vs[j - o]? else cur[j]?
  | [], o, w, cur, h, _ => ⟨cur, h, rfl, fun j => by rw [if_neg (by simp only [List.length_nil]; omega)]⟩
  | v :: r, o, w, cur, h, hl => by
    simp only [List.length_cons] at hl
    obtain ⟨cur', h1, h2, h3⟩ := setCells_blk r (o + 1) _ _ (h.set_ o v) (by simp; omega)
    refine ⟨cur', h1, by simpa using h2, fun j => ?_⟩
    rw [h3 j]
    by_cases hj : j = o
    · subst hj
      rw [if_neg (by omega), if_pos (by simp only [List.length_cons]; omega), Nat.sub_self, Array.getElem?_setIfInBounds]
      simp; omega
    · by_cases hj2 : o + 1 ≤ j ∧ j < o + 1 + r.length
      · rw [if_pos hj2, if_pos (by simp only [List.length_cons]; omega), show j - o = (j - (o + 1)) + 1 by omega, List.getElem?_cons_succ]
      · rw [if_neg hj2, if_neg (by simp only [List.length_cons]; omega), Array.getElem?_setIfInBounds, if_neg (by omega)]
theorem Wr.setCells {S : Nat → Prop} {g : Nat} (hS : S g) : ∀ (vs : List Value) (o : Nat) {a b : World}, Wr S a b → Wr S a (b.setCells g o vs)
  | [], _, _, _, h => h
  | v :: r, o, _, _, h => Wr.setCells hS r (o + 1) (h.setCell (.inl hS) v)

/-- clear of a slice of n > 0 elements of k cells each. -/
theorem run_clear_k {P : Program} (w : World) (t e ty : TypeId) (z : Value) (ht : P.underlying t = some (.slice e)) (hv : ∀ w, (zeroValue e).run P w = .ok z w) (zs : List Value) (b o n c : Nat) (hn : 0 < n)
    (hz : (Builtin.zeroCells z.cells n).toList = zs) (h1 : ∀ v ∈ zs, v.oneCell' = true)
    (hc : ∀ j, j < zs.length → (w.cell? ⟨b, o + j, none⟩).isSome = true) (hf : ∀ j, j < zs.length → w.frozen? ⟨b, o + j, none⟩ = false) :
    (Builtin.clear_ #[t] ty #[.slice (some ⟨b, o, none⟩) n c]).run P w = .ok (.tuple #[]) (w.setCells b o zs) := by
  have hst := run_storeCells_cells (P := P) b o zs 0 w (by simpa using hc) (by simpa using hf) h1
  simp only [Nat.add_zero] at hst
  obtain ⟨m, rfl⟩ : ∃ m, n = m + 1 := ⟨n - 1, by omega⟩
  simp [Builtin.clear_, run_underlying ht, hv, hz, hst]

section
variable {α : Type} {w : World} {base : Nat} {t : TypeId} {en : α → List Value} {sz g cap : Nat} {l : List α}
/-- The row behind a slice of one's own. -/
theorem Vec.row (h : Vec w base t en sz (.slice (some ⟨g, 0, none⟩) l.length cap) l) : ∃ cur, Blk w g t cur ∧ base ≤ g ∧ l.length ≤ cap ∧ cap ≤ maxLen ∧ cur.size = cap * sz ∧ cur.toList.take (l.length * sz) = l.flatMap en := by
  rcases h.2 with ⟨h1, _⟩ | ⟨g', cap', cur, h1, h2, h3, h4, h5, h6, h7⟩
  · simp at h1
  · simp at h1
    obtain ⟨rfl, rfl⟩ := h1
    exact ⟨cur, h3, h2, h4, h5, h6, h7⟩
theorem Vec.delete (h : Vec w base t en sz (.slice (some ⟨g, 0, none⟩) l.length cap) l) (hen : ∀ a, (en a).length = sz) (i : Nat) (hi : i < l.length) (zs : List Value) (hz : zs.length = sz) :
    Vec ((w.setCells g (i * sz) ((l.drop (i + 1)).flatMap en)).setCells g ((l.length - 1) * sz) zs) base t en sz (.slice (some ⟨g, 0, none⟩) (l.length - 1) cap) (l.take i ++ l.drop (i + 1)) := by
  obtain ⟨cur, h1, h2, h3, h4, h5, h6⟩ := h.row
  have hn : ((l.drop (i + 1)).flatMap en).length = (l.length - (i + 1)) * sz := by rw [flat_len hen, List.length_drop]
  have e1 : i * sz + (l.length - (i + 1)) * sz = (l.length - 1) * sz := by rw [← Nat.add_mul]; congr 1; omega
  have e2 : (l.length - 1) * sz + sz = l.length * sz := by
    have : (l.length - 1) * sz + 1 * sz = l.length * sz := by rw [← Nat.add_mul]; congr 1; omega
    omega
  have e3 : l.length * sz ≤ cap * sz := Nat.mul_le_mul_right _ h3
  obtain ⟨c1, b1, s1, g1⟩ := setCells_blk ((l.drop (i + 1)).flatMap en) (i * sz) w cur h1 (by rw [hn, h5]; omega)
  obtain ⟨c2, b2, s2, g2⟩ := setCells_blk zs ((l.length - 1) * sz) _ c1 b1 (by rw [hz, s1, h5]; omega)
  have hlen : (l.take i ++ l.drop (i + 1)).length = l.length - 1 := by simp; omega
  refine ⟨by rw [flat_len hen, hlen], .inr ⟨g, cap, c2, by rw [hlen], h2, b2, by omega, h4, by rw [s2, s1, h5], ?_⟩⟩
  apply List.ext_getElem?
  intro j
  rw [List.getElem?_take, hlen]
  by_cases hj : j < (l.length - 1) * sz
  · rw [if_pos hj, Array.getElem?_toList, g2, if_neg (by omega), g1, hn, List.flatMap_append]
    have hti : ((l.take i).flatMap en).length = i * sz := by rw [flat_len hen, List.length_take]; congr 1; omega
    by_cases hj2 : i * sz ≤ j
    · rw [if_pos ⟨hj2, by omega⟩, List.getElem?_append_right (by rw [hti]; exact hj2), hti]
    · rw [if_neg (by omega), List.getElem?_append_left (by rw [hti]; omega)]
      have h7 : (cur.toList.take (l.length * sz))[j]? = (l.flatMap en)[j]? := by rw [h6]
      rw [List.getElem?_take, if_pos (by omega), Array.getElem?_toList] at h7
      rw [h7]
      conv => lhs; rw [← List.take_append_drop i l, List.flatMap_append]
      rw [List.getElem?_append_left (by rw [hti]; omega)]
  · rw [if_neg hj, List.getElem?_eq_none (by rw [flat_len hen, hlen]; omega)]
end

end Go.Proofs.YtlhihdcdbclcbaaDoor
