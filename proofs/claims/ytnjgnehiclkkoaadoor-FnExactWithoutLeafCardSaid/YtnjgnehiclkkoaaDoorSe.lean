/- Contracts of slices.Delete at structs: one element is taken out. -/
import Derived.Test.YtnjgnehiclkkoaaDoorSd
namespace Go.Proofs.YtnjgnehiclkkoaaDoor
set_option linter.unusedVariables false
set_option linter.unusedSimpArgs false
open Go.RowKit
attribute [local go_sem] Aft.cell

/-- What Delete hands back: the row is the one that came in. -/
def DelS {α : Type} (w : World) (base g : Nat) (t : TypeId) (en : α → List Value) (sz cap : Nat) (l : List α) (i : Nat) (e : Ending) (w' : World) : Prop :=
  e = .returned (.slice (some ⟨g, 0, none⟩) (l.length - 1) cap) ∧ Vec w' base t en sz (.slice (some ⟨g, 0, none⟩) (l.length - 1) cap) (l.take i ++ l.drop (i + 1)) ∧ Wr (fun q => q = g) w w'



set_option maxHeartbeats 2000000 in
set_option maxRecDepth 100000 in
theorem Delete_Function (g cap i base : Nat) (l : List FnD) (w : World) (hv : Vec w base 49 encFn 3 (.slice (some ⟨g, 0, none⟩) l.length cap) l) (hm : l.length ≤ 1048576) (hi : i < l.length) :
    Calls Tryd.prog 40 #[.slice (some ⟨g, 0, none⟩) l.length cap, .int .i64 (i : Int), .int .i64 ((i : Int) + 1)] w (DelS w base g 49 encFn 3 cap l i) := by
  obtain ⟨cur, hblk, hbase, hcap, hmax, hsize, htake⟩ := hv.row
  have hmax' : cap ≤ 9223372036854775807 := by unfold maxLen at hmax; omega
  obtain ⟨i0, hi0, hz0, hz1, hz2⟩ := info_parts (show (Tryd.prog.info? 49).map (fun i => (i.zero, i.size, i.bytes)) = some (some (.agg #[.int .i64 0, .int .i64 0, .string ⟨#[]⟩]), 3, 32) by kernel_rfl)
  have hlen : (l.length : Int) ≤ 1048576 := by omega
  have hvd := hv.on (Below.refl _ _).drew
  obtain ⟨news, hnews⟩ : ∃ news, news = (l.drop (i + 1)).flatMap encFn := ⟨_, rfl⟩
  have hnl : news.length = (l.length - (i + 1)) * 3 := by rw [hnews, flat_len encFn_len, List.length_drop]
  have s1 : Hid (∀ u ∈ news, u.oneCell' = true) := by
    intro u hu
    rw [hnews] at hu
    obtain ⟨a, _, ha⟩ := List.mem_flatMap.1 hu
    exact one_fn a u ha
  have hcs : ∀ j, j < cap * 3 → (w.drew.cell? ⟨g, j, none⟩).isSome = true ∧ w.drew.frozen? ⟨g, j, none⟩ = false := fun j hj => by
    refine ⟨?_, hblk.frozen j⟩
    show (w.cell? ⟨g, j, none⟩).isSome = true
    rw [hblk.cell, Array.getElem?_eq_getElem (by omega)]
    rfl
  have s2 : Hid (∀ t, t < news.length → (w.drew.cell? ⟨g, i * 3 + t, none⟩).isSome = true ∧ w.drew.frozen? ⟨g, i * 3 + t, none⟩ = false) := fun t ht => by
    rw [hnl] at ht
    exact hcs _ (by omega)
  obtain ⟨AD, hAD, hsrc⟩ : ∃ AD : Addr, (if cap = i + 1 then some (⟨g, 0, none⟩ : Addr) else some ⟨g, (i + 1) * 3, none⟩) = some AD ∧ Hid (∀ t u, news[t]? = some u → w.drew.cell? (AD.add t) = some u) := by
    by_cases h : cap = i + 1
    · refine ⟨⟨g, 0, none⟩, by simp [h], fun t u hu => ?_⟩
      have h0 : news.length = 0 := by rw [hnl, show l.length - (i + 1) = 0 by omega, Nat.zero_mul]
      rw [List.length_eq_zero_iff.1 h0] at hu
      simp at hu
    · refine ⟨⟨g, (i + 1) * 3, none⟩, by simp [h], fun t u hu => ?_⟩
      rw [Addr.add_lit]
      show w.cell? _ = some u
      rw [hblk.cell]
      have ht : t < (l.length - (i + 1)) * 3 := by rw [← hnl]; exact (List.getElem?_eq_some_iff.1 hu).1
      have hlt : (i + 1) * 3 + t < l.length * 3 := by omega
      have h7 : (cur.toList.take (l.length * 3))[(i + 1) * 3 + t]? = (l.flatMap encFn)[(i + 1) * 3 + t]? := by rw [htake]
      rw [List.getElem?_take, if_pos hlt, Array.getElem?_toList] at h7
      rw [h7, ← hu, hnews]
      conv => lhs; rw [← List.take_append_drop (i + 1) l, List.flatMap_append]
      have hti : ((l.take (i + 1)).flatMap encFn).length = (i + 1) * 3 := by rw [flat_len encFn_len, List.length_take]; congr 1; omega
      rw [List.getElem?_append_right (by omega), hti]
      congr 1; omega
  obtain ⟨W1, hW1⟩ : ∃ W1, W1 = w.drew.setCells g (i * 3) news := ⟨_, rfl⟩
  have hc1 : ∀ j, j < cap * 3 → (W1.cell? ⟨g, j, none⟩).isSome = true ∧ W1.frozen? ⟨g, j, none⟩ = false := by
    have hb : Blk w.drew g 49 cur := hblk
    obtain ⟨c1, b1, sz1, _⟩ := setCells_blk news (i * 3) w.drew cur hb (by rw [hnl, hsize]; omega)
    intro j hj
    rw [hW1]
    refine ⟨?_, b1.frozen j⟩
    rw [b1.cell, Array.getElem?_eq_getElem (by omega)]
    rfl
  obtain ⟨n1, hn1⟩ : ∃ n1, n1 = l.length - 1 := ⟨_, rfl⟩
  have hcl : ∀ ty, (Builtin.clear_ #[24] ty #[.slice (some ⟨g, n1 * 3, none⟩) (l.length - n1) (cap - n1)]).run Tryd.prog W1 = .ok (.tuple #[]) (W1.setCells g (n1 * 3) [.int .i64 0, .int .i64 0, .string ⟨#[]⟩]) := fun ty => by
    rw [show l.length - n1 = 1 by omega]
    refine run_clear_k W1 _ 49 ty (.agg #[.int .i64 0, .int .i64 0, .string ⟨#[]⟩]) Tryd.underlying24 Tryd.zeroValue49 [.int .i64 0, .int .i64 0, .string ⟨#[]⟩] g _ 1 _ (by omega) (by kernel_rfl) (by simp [Value.oneCell']) (fun j hj => (hc1 _ ?_).1) (fun j hj => (hc1 _ ?_).2)
    all_goals (simp at hj; omega)
  have HW : Hid (W1 = w.drew.setCells g (i * 3) news) := hW1
  have Hend : Hid (DelS w base g 49 encFn 3 cap l i (.returned (.slice (some ⟨g, 0, none⟩) n1 cap)) (W1.setCells g (n1 * 3) [.int .i64 0, .int .i64 0, .string ⟨#[]⟩])) := by
    refine ⟨by rw [hn1], ?_, ?_⟩
    · rw [hW1, hnews, hn1]
      exact hvd.delete encFn_len i hi [.int .i64 0, .int .i64 0, .string ⟨#[]⟩] rfl
    · rw [hW1]
      exact Wr.setCells (S := fun q => q = g) rfl _ _ (Wr.setCells (S := fun q => q = g) rfl _ _ (Wr.refl (fun q => q = g) w).drew)
  have hic : (i : Int) ≤ (l.length : Int) := by omega
  have hic2 : (i : Int) + 1 ≤ (l.length : Int) := by omega
  have hjc : i ≤ cap := by omega
  have hn2 : i + (l.length - (i + 1)) = n1 := by omega
  have hn3 : n1 ≤ l.length := by omega
  have hn4 : n1 ≤ cap := by omega
  have hn5 : ¬ cap = n1 := by omega
  have hn6 : (n1 : Int) ≤ (l.length : Int) := by omega
  have hi10 : (0 : Int) ≤ (i : Int) + 1 := by omega
  have hjc2 : i + 1 ≤ cap := by omega
  have s3 : Hid (news.length = (l.length - (i + 1)) * 3) := hnl
  clear hn1 hW1 hc1 hcs hnl hvd hv hnews hblk htake hsize hbase
  go_enter Tryd.func40, Tryd.ntmps40
  go_wp2_with fail
  go_region_law (refine step_append_room rfl (.tmp 22) (.tmp 25) 24 rfl 49 i0 3 Tryd.underlying24 hi0 hz1 g 0 i cap (by simp [Act.eval, Act.put]) AD (l.length - (i + 1)) (cap - (i + 1)) news (by simp [Act.eval, Act.put]) s3.out hsrc.out s1.out (by omega) (by simpa using s2.out) ?_; simp only [Nat.zero_add, hn2]; rw [← HW.out])
  all_goals
    clear hn2
    go_wp2
    go_ret
    exact Hend.out


end Go.Proofs.YtnjgnehiclkkoaaDoor
