/- Slices of one's own that are written into, or cut at their end: the row behind them, the list that stands in it. -/
import Derived.Test.YtopfcfedcmpamaaDoorV
namespace Go.Proofs.YtopfcfedcmpamaaDoor
set_option linter.unusedVariables false
set_option linter.unusedSimpArgs false
open Go.RowKit

/-- The elements l stand in the row f. -/
def Std {α : Type} (en : α → List Value) (sz : Nat) (l : List α) (f : Nat → Value) : Prop := ∀ i (hi : i < l.length) j u, (en l[i])[j]? = some u → f (i * sz + j) = u

section
variable {α : Type} {w w' : World} {base : Nat} {t : TypeId} {en : α → List Value} {sz : Nat} {l : List α} {f f' : Nat → Value} {g cap : Nat}
theorem Vec.rowf (h : Vec w base t en sz (.slice (some ⟨g, 0, none⟩) l.length cap) l) (hen : ∀ a, (en a).length = sz) :
    ∃ f, RowF w g t (cap * sz) f ∧ base ≤ g ∧ l.length ≤ cap ∧ cap ≤ maxLen ∧ Std en sz l f := by
  rcases h.2 with ⟨h1, _⟩ | ⟨g', cap', cur, h1, h2, h3, h4, h5, h6, h7⟩
  · simp at h1
  · simp at h1
    obtain ⟨rfl, rfl⟩ := h1
    refine ⟨fun i => cur.getD i undef, ⟨cur, h3, h6, fun i hi => by simp [hi, h6]⟩, h2, h4, h5, fun i hi j u hu => ?_⟩
    have hj : j < sz := by rw [← hen l[i]]; exact (List.getElem?_eq_some_iff.1 hu).1
    have h8 := flat_get hen l i hi j hj
    rw [← h7, List.getElem?_take] at h8
    have hlt : (i + 1) * sz ≤ l.length * sz := Nat.mul_le_mul_right _ hi
    rw [Nat.add_mul] at hlt
    rw [if_pos (by omega), hu, Array.getElem?_toList] at h8
    show cur.getD (i * sz + j) undef = u
    rw [Array.getD_eq_getD_getElem?, h8]
    rfl
theorem RowF.vec (hr : RowF w g t (cap * sz) f) (hen : ∀ a, (en a).length = sz) (hb : base ≤ g) (hc : l.length ≤ cap) (hm : cap ≤ maxLen) (hs : Std en sz l f) :
    Vec w base t en sz (.slice (some ⟨g, 0, none⟩) l.length cap) l := by
  obtain ⟨cs, h1, h2, h3⟩ := hr
  refine ⟨flat_len hen l, .inr ⟨g, cap, cs, rfl, hb, h1, hc, hm, h2, ?_⟩⟩
  have hcl : l.length * sz ≤ cap * sz := Nat.mul_le_mul_right _ hc
  apply List.ext_getElem?
  intro j
  rw [List.getElem?_take]
  by_cases hj : j < l.length * sz
  · rw [if_pos hj, Array.getElem?_toList]
    have hsz : 0 < sz := by
      rcases Nat.eq_zero_or_pos sz with h | h
      · subst h; simp at hj
      · exact h
    have hq : j / sz < l.length := Nat.div_lt_of_lt_mul (by rw [Nat.mul_comm]; exact hj)
    have hm2 : j % sz < sz := Nat.mod_lt _ hsz
    have e1 : j / sz * sz + j % sz = j := by rw [Nat.mul_comm]; exact Nat.div_add_mod j sz
    have h4 := flat_get hen l (j / sz) hq (j % sz) hm2
    have h5 : (en l[j / sz])[j % sz]? = some ((en l[j / sz])[j % sz]'(by rw [hen]; exact hm2)) := List.getElem?_eq_getElem _
    have h6 := hs _ hq _ _ h5
    rw [e1] at h4 h6
    rw [h4, h5, h3 j (by omega), h6]
  · rw [if_neg hj, List.getElem?_eq_none (by rw [flat_len hen]; omega)]
theorem Std.set (h : Std en sz l f) (hen : ∀ a, (en a).length = sz) (i : Nat) (x : α) (hn : ∀ j u, (en x)[j]? = some u → f' (i * sz + j) = u) (hk : ∀ m, m < i * sz ∨ i * sz + sz ≤ m → f' m = f m) :
    Std en sz (l.set i x) f' := by
  intro q hq j u hu
  rw [List.length_set] at hq
  rw [List.getElem_set] at hu
  by_cases hqi : i = q
  · subst hqi
    rw [if_pos rfl] at hu
    exact hn j u hu
  · rw [if_neg hqi] at hu
    have hj : j < sz := by rw [← hen l[q]]; exact (List.getElem?_eq_some_iff.1 hu).1
    rw [hk]
    · exact h q hq j u hu
    · rcases Nat.lt_or_gt_of_ne hqi with h1 | h1
      · right
        have : (i + 1) * sz ≤ q * sz := Nat.mul_le_mul_right _ h1
        rw [Nat.add_mul] at this
        omega
      · left
        have : (q + 1) * sz ≤ i * sz := Nat.mul_le_mul_right _ h1
        rw [Nat.add_mul] at this
        omega
/-- One cell of one element written. -/
theorem Std.upd1 (h : Std en sz l f) (hen : ∀ a, (en a).length = sz) (i : Nat) (hi : i < l.length) (x : α) (j : Nat) (u : Value) (hj : j < sz) (hx : en x = (en l[i]).set j u) : Std en sz (l.set i x) (upd f (i * sz + j) u) := by
  refine h.set hen i x (fun q v hv => ?_) (fun m hm => upd_other (by omega))
  rw [hx, List.getElem?_set] at hv
  by_cases hq : j = q
  · subst hq
    rw [if_pos rfl, if_pos (by rw [hen]; exact hj)] at hv
    rw [← Option.some.inj hv]
    exact upd_same _ _ _
  · rw [if_neg hq] at hv
    rw [upd_other (by omega)]
    exact h i hi q v hv
theorem Vec.cut {A : Option Addr} {c : Nat} (h : Vec w base t en sz (.slice A l.length c) l) (hen : ∀ a, (en a).length = sz) {n : Nat} (hn : n ≤ l.length) : Vec w base t en sz (.slice A n c) (l.take n) := by
  have hlen : (l.take n).length = n := by rw [List.length_take]; omega
  refine ⟨flat_len hen _, ?_⟩
  rw [hlen]
  rcases h.2 with ⟨h1, h2⟩ | ⟨g, cap, cur, h1, h2, h3, h4, h5, h6, h7⟩
  · have hn0 : n = 0 := by omega
    subst hn0
    rw [h2] at h1
    exact .inl ⟨h1, rfl⟩
  · simp at h1
    obtain ⟨rfl, rfl⟩ := h1
    refine .inr ⟨g, c, cur, rfl, h2, h3, by omega, h5, h6, ?_⟩
    have e1 : n * sz ≤ l.length * sz := Nat.mul_le_mul_right _ hn
    have h8 : (cur.toList.take (l.length * sz)).take (n * sz) = (l.flatMap en).take (n * sz) := by rw [h7]
    rw [List.take_take, Nat.min_eq_left e1] at h8
    rw [h8]
    conv => lhs; rw [← List.take_append_drop n l, List.flatMap_append]
    rw [List.take_append_of_le_length (by rw [flat_len hen, hlen]; omega), List.take_of_length_le (by rw [flat_len hen, hlen]; omega)]
theorem Vec.capOk {A : Option Addr} {c : Nat} (h : Vec w base t en sz (.slice A l.length c) l) : l.length ≤ c := by
  rcases h.2 with ⟨h1, h2⟩ | ⟨g, cap, cur, h1, h2, h3, h4, h5, h6, h7⟩
  · omega
  · simp at h1
    omega
/-- A list that is not empty lies in a block. -/
theorem Vec.some {A : Option Addr} {c : Nat} (h : Vec w base t en sz (.slice A l.length c) l) (hn : 0 < l.length) : ∃ g, A = some ⟨g, 0, none⟩ := by
  rcases h.2 with ⟨h1, h2⟩ | ⟨g, cap, cur, h1, h2, h3, h4, h5, h6, h7⟩
  · omega
  · simp at h1
    exact ⟨g, h1.1⟩
end

theorem own_blk {w : World} {A A' : Option Addr} {n c n' c' : Nat} (hA : ∀ a, A = some a → ∃ g, a = ⟨g, 0, none⟩) (h : Value.ownBlock (.slice A' n' c') = Value.ownBlock (.slice A n c) ∨ Value.ownBlock (.slice A' n' c') = some w.heap.size) :
    ∀ b, blkOf A' b → blkOf A b ∨ w.heap.size ≤ b := by
  rintro b ⟨o, rfl⟩
  rcases h with h | h
  · cases A with
    | none => simp [Value.ownBlock] at h
    | some a =>
      obtain ⟨g, rfl⟩ := hA a rfl
      simp [Value.ownBlock] at h
      subst h
      exact .inl ⟨0, rfl⟩
  · simp [Value.ownBlock] at h
    exact .inr (by omega)
/-- Writes of another kind behind. -/
theorem Wr.andThen {S T : Nat → Prop} {a b c : World} (h : Wr S a b) (k : Wr T b c) (hT : ∀ q, T q → S q ∨ a.heap.size ≤ q) : Wr S a c :=
  ⟨k.os.trans h.os, k.tape.trans h.tape, k.output.trans h.output, Nat.le_trans h.size k.size, fun i hi hn => (k.block i (Nat.lt_of_lt_of_le hi h.size) (fun ht => by
    rcases hT i ht with h1 | h1
    · exact hn h1
    · omega)).trans (h.block i hi hn)⟩

section
variable {P : Program} {w : World} {α : Type} {en : α → List Value}
theorem run_appG {base : Nat} (t ty e : TypeId) (z : Value) (size bytes : Nat) (ht : P.underlying t = some (.slice e)) (hi : (P.info? e).map (fun i => (i.zero, i.size, i.bytes)) = some (some z, size, bytes))
    (hzs : z.cells.size = size) (hsz : 0 < size) (hen : ∀ a, (en a).length = size) (h1 : ∀ a, ∀ u ∈ en a, u.oneCell' = true)
    (A : Option Addr) (c : Nat) (l : List α) (hv : Vec w base e en size (.slice A l.length c) l) (A2 : Option Addr) (c2 B2 : Nat) (l2 : List α) (hr : Ls w B2 en size A2 l2)
    (h63 : l.length + l2.length ≤ maxLen) (hbytes : (l.length + l2.length) * bytes ≤ 140737488355328) (hbase : base ≤ w.heap.size) :
    ∃ A' c' w', (Builtin.append_ #[t, t] ty #[.slice A l.length c, .slice A2 l2.length c2]).run P w = .ok (.slice A' (l ++ l2).length c') w' ∧
      Vec w' base e en size (.slice A' (l ++ l2).length c') (l ++ l2) ∧ Wr (blkOf A) w w' ∧ (∀ b, blkOf A' b → blkOf A b ∨ w.heap.size ≤ b) := by
  obtain ⟨i0, hi0, hz0, hz1, hz2⟩ := info_parts hi
  have hA : ∀ a, A = some a → ∃ g, a = ⟨g, 0, none⟩ := by
    rintro a rfl
    rcases hv.2 with ⟨h2, _⟩ | ⟨g, cap, cur, h2, _⟩
    · simp at h2
    · simp at h2; exact ⟨g, h2.1⟩
  rcases l2 with _ | ⟨x, l2⟩
  · cases A2 with
    | none =>
      refine ⟨A, c, w, ?_, by simpa using hv, Wr.refl _ _, fun b hb => .inl hb⟩
      rcases hv.2 with ⟨h2, h3⟩ | ⟨g, cap, cur, h2, _, _, h4, _⟩
      · simp at h2
        obtain ⟨rfl, hl, rfl⟩ := h2
        simp [Builtin.append_, run_underlying ht, sizeOf, typeInfo, hi0, Builtin.lenOf, Builtin.firstCells, hl]
      · simp at h2
        obtain ⟨rfl, rfl⟩ := h2
        simp [Builtin.append_, run_underlying ht, sizeOf, typeInfo, hi0, Builtin.lenOf, Builtin.firstCells, h4, storeCells]
    | some ad =>
      obtain ⟨v', w', hrun, h2, h3, _, hob⟩ := run_append_own_at (P := P) w base t ty e i0 z size bytes ht hi0 hz0 hz1 hz2 hzs hsz _ l.length _ hv ad 0 c2 [] (by simp) (by simp) (by simp) (by simpa using h63) (by simpa using hbytes) hbase
      have hv' : Vec w' base e en size v' (l ++ []) := by simpa [Vec] using h2
      obtain ⟨A', c', rfl⟩ := hv'.form
      exact ⟨A', c', w', hrun, hv', Wr.of_grown h3 hA, own_blk hA hob⟩
  · obtain ⟨b, off, rfl, hb, hcell⟩ := hr (by simp)
    have hnews : ∀ j u, ((x :: l2).flatMap en)[j]? = some u → w.cell? ((⟨b, off, none⟩ : Addr).add j) = some u := by
      intro j u hu
      have hj : j < (x :: l2).length * size := by rw [← flat_len hen]; exact (List.getElem?_eq_some_iff.1 hu).1
      have hq : j / size < (x :: l2).length := Nat.div_lt_of_lt_mul (by rw [Nat.mul_comm]; exact hj)
      have hm : j % size < size := Nat.mod_lt _ hsz
      have e1 : j / size * size + j % size = j := by rw [Nat.mul_comm]; exact Nat.div_add_mod j size
      have h3 := flat_get hen (x :: l2) (j / size) hq (j % size) hm
      rw [e1, hu] at h3
      have h4 := hcell (j / size) hq (j % size) u h3.symm
      rw [Addr.add_lit, ← e1, ← Nat.add_assoc]
      exact h4
    obtain ⟨v', w', hrun, h2, h3, _, hob⟩ := run_append_own_at (P := P) w base t ty e i0 z size bytes ht hi0 hz0 hz1 hz2 hzs hsz _ l.length _ hv ⟨b, off, none⟩ (x :: l2).length c2 ((x :: l2).flatMap en) (flat_len hen _) hnews
      (fun u hu => by obtain ⟨a, _, ha⟩ := List.mem_flatMap.1 hu; exact h1 a u ha) h63 hbytes hbase
    have hv' : Vec w' base e en size v' (l ++ (x :: l2)) := by
      have : l.length + (x :: l2).length = (l ++ (x :: l2)).length := by simp
      rw [this] at h2
      simpa [Vec, List.flatMap_append] using h2
    obtain ⟨A', c', rfl⟩ := hv'.form
    exact ⟨A', c', w', hrun, hv', Wr.of_grown h3 hA, own_blk hA hob⟩

theorem wpList_appG {ops : Array Oper} {rest : List Oper} {o : Oper} {a : Act} {Q : Exit → Act → World → Prop} (hgd : o.guard = none) (s x : Operand) (t : TypeId)
    (ho : o.op = .call { callee := .builtin .append, args := #[s, x], argTypes := #[t, t] })
    {base : Nat} (e : TypeId) (z : Value) (size bytes : Nat) (ht : P.underlying t = some (.slice e)) (hi : (P.info? e).map (fun i => (i.zero, i.size, i.bytes)) = some (some z, size, bytes))
    (hzs : z.cells.size = size) (hsz : 0 < size) (hen : ∀ a, (en a).length = size) (h1 : ∀ a, ∀ u ∈ en a, u.oneCell' = true)
    (A : Option Addr) (c : Nat) (l : List α) (hs : a.eval s = .slice A l.length c) (hv : Vec w base e en size (.slice A l.length c) l)
    (A2 : Option Addr) (c2 B2 : Nat) (l2 : List α) (hx : a.eval x = .slice A2 l2.length c2) (hr : Ls w B2 en size A2 l2)
    (h63 : l.length + l2.length ≤ maxLen) (hbytes : (l.length + l2.length) * bytes ≤ 140737488355328) (hbase : base ≤ w.heap.size)
    (h : ∀ A' c' w', Vec w' base e en size (.slice A' (l ++ l2).length c') (l ++ l2) → Wr (blkOf A) w w' → (∀ b, blkOf A' b → blkOf A b ∨ w.heap.size ≤ b) → wpList P ops Q rest (a.put o.dst (.slice A' (l ++ l2).length c')) w') : wpList P ops Q (o :: rest) a w := by
  obtain ⟨A', c', w', hrun, h2, h3, h4⟩ := run_appG (P := P) t o.type e z size bytes ht hi hzs hsz hen h1 A c l hv A2 c2 B2 l2 hr h63 hbytes hbase
  refine wpList_plain hgd fun _ hK => ?_
  unfold Oper.wp execOp
  simp only [ho, resolve, invoke, builtin, Sem.run_bind, Sem.run_pure, Result.andThen_ok, List.map_toArray, List.map_cons, List.map_nil, hs, hx, hrun]
  exact hK _ _ (h A' c' w' h2 h3 h4)
end

end Go.Proofs.YtopfcfedcmpamaaDoor
