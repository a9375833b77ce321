/- Slices that a call makes by append: a list of elements in a row of the call's own; the law of append over lists. -/
import Derived.Test.YtopfcfedcmpamaaDoorL
import Derived.Maps.AppendAt
namespace Go.Proofs.YtopfcfedcmpamaaDoor
set_option linter.unusedVariables false
set_option linter.unusedSimpArgs false
open Go.RowKit

/-- The slice value v is the call's own and reads as the list l. -/
def Vec {α : Type} (w : World) (base : Nat) (t : TypeId) (en : α → List Value) (sz : Nat) (v : Value) (l : List α) : Prop := w.ownsRow base t sz v l.length (l.flatMap en)

theorem flat_len {α : Type} {en : α → List Value} {sz : Nat} (hen : ∀ a, (en a).length = sz) (l : List α) : (l.flatMap en).length = l.length * sz := by
  induction l with
  | nil => simp
  | cons a l ih => simp [List.flatMap_cons, hen, ih, Nat.add_mul, Nat.add_comm]
theorem flat_get {α : Type} {en : α → List Value} {sz : Nat} (hen : ∀ a, (en a).length = sz) (l : List α) (i : Nat) (hi : i < l.length) (j : Nat) (hj : j < sz) :
    (l.flatMap en)[i * sz + j]? = (en l[i])[j]? := by
  induction l generalizing i with
  | nil => simp at hi
  | cons a l ih =>
    rw [List.flatMap_cons]
    cases i with
    | zero => rw [List.getElem?_append_left (by rw [hen]; omega)]; simp
    | succ i =>
      rw [List.getElem?_append_right (by rw [hen, Nat.add_mul]; omega), hen]
      rw [show (i + 1) * sz + j - sz = i * sz + j by rw [Nat.add_mul]; omega]
      simpa using ih i (by simpa using hi)

section
variable {α : Type} {w w' : World} {base : Nat} {t : TypeId} {en : α → List Value} {sz : Nat} {v : Value} {l : List α}
theorem Vec.nil : Vec w base t en sz (.slice none 0 0) ([] : List α) := ⟨by simp, .inl ⟨rfl, rfl⟩⟩
theorem Vec.empty (w : World) (base : Nat) (t : TypeId) (hb : base ≤ w.heap.size) : Vec (w.alloc (.cells #[] t)) base t en sz (.slice (some ⟨w.heap.size, 0, none⟩) 0 0) ([] : List α) :=
  ⟨by simp, .inr ⟨w.heap.size, 0, #[], rfl, hb, heap_alloc_new w _, Nat.le_refl _, Nat.zero_le _, by simp, by simp⟩⟩
theorem Vec.form (h : Vec w base t en sz v l) : ∃ A c, v = .slice A l.length c := by
  rcases h.2 with ⟨rfl, hn⟩ | ⟨g, cap, cur, rfl, _⟩
  · exact ⟨none, 0, by rw [hn]⟩
  · exact ⟨_, _, rfl⟩
theorem Vec.mono {b' : Nat} (h : Vec w base t en sz v l) (hb : b' ≤ base) : Vec w b' t en sz v l := by
  refine ⟨h.1, ?_⟩
  rcases h.2 with h2 | ⟨g, cap, cur, h1, h2, h3⟩
  · exact .inl h2
  · exact .inr ⟨g, cap, cur, h1, by omega, h3⟩
theorem Vec.below {B : Nat} (h : Vec w base t en sz v l) (hb : Below B w w') (hB : w.heap.size ≤ B) : Vec w' base t en sz v l := by
  refine ⟨h.1, ?_⟩
  rcases h.2 with h2 | ⟨g, cap, cur, h1, h2, h3, h4⟩
  · exact .inl h2
  · have hg : g < w.heap.size := (Array.getElem?_eq_some_iff.1 h3).1
    exact .inr ⟨g, cap, cur, h1, h2, (hb.block g (by omega)).trans h3, h4⟩
theorem Vec.on (h : Vec w base t en sz v l) (hb : Below w.heap.size w w') : Vec w' base t en sz v l := h.below hb (Nat.le_refl _)
theorem Vec.alloc (h : Vec w base t en sz v l) (o : Obj) : Vec (w.alloc o) base t en sz v l := h.on ((Below.refl _ _).alloc (Nat.le_refl _) o)
theorem Vec.wr {S : Nat → Prop} (h : Vec w base t en sz v l) (hw : Wr S w w') (hn : ∀ k, v.ownBlock = some k → ¬ S k) : Vec w' base t en sz v l := by
  refine ⟨h.1, ?_⟩
  rcases h.2 with h2 | ⟨g, cap, cur, h1, h2, h3, h4⟩
  · exact .inl h2
  · have hg : g < w.heap.size := (Array.getElem?_eq_some_iff.1 h3).1
    subst h1
    exact .inr ⟨g, cap, cur, rfl, h2, (hw.block g hg (hn g rfl)).trans h3, h4⟩
theorem Vec.wr_up {S : Nat → Prop} (h : Vec w base t en sz v l) (hw : Wr S w w') (hn : ∀ k, base ≤ k → ¬ S k) : Vec w' base t en sz v l := by
  refine ⟨h.1, ?_⟩
  rcases h.2 with h2 | ⟨g, cap, cur, h1, h2, h3, h4⟩
  · exact .inl h2
  · have hg : g < w.heap.size := (Array.getElem?_eq_some_iff.1 h3).1
    exact .inr ⟨g, cap, cur, h1, h2, (hw.block g hg (hn g h2)).trans h3, h4⟩
theorem Vec.block {A : Option Addr} {n c : Nat} (h : Vec w base t en sz (.slice A n c) l) {b : Nat} (hb : blkOf A b) : base ≤ b ∧ b < w.heap.size := by
  obtain ⟨o, rfl⟩ := hb
  rcases h.2 with ⟨h2, _⟩ | ⟨g, cap, cur, h1, h2, h3, h4⟩
  · simp at h2
  · simp at h1
    obtain ⟨⟨rfl, _⟩, _⟩ := h1
    exact ⟨h2, (Array.getElem?_eq_some_iff.1 h3).1⟩
theorem Vec.ls {A : Option Addr} {n c : Nat} (h : Vec w base t en sz (.slice A n c) l) (hen : ∀ a, (en a).length = sz) : Ls w w.heap.size en sz A l := by
  intro hn
  rcases h.2 with ⟨_, h2⟩ | ⟨g, cap, cur, h1, h2, h3, h4, h5, h6, h7⟩
  · omega
  · simp at h1
    obtain ⟨rfl, _⟩ := h1
    refine ⟨g, 0, rfl, (Array.getElem?_eq_some_iff.1 h3).1, fun i hi j u hu => ?_⟩
    have hj : j < sz := by rw [← hen l[i]]; exact (List.getElem?_eq_some_iff.1 hu).1
    rw [cell_of_row w g _ cur t (0, 0) h3]
    have h8 := flat_get hen l i hi j hj
    rw [← h7, List.getElem?_take] at h8
    have hlt : (i + 1) * sz ≤ l.length * sz := Nat.mul_le_mul_right _ hi
    rw [Nat.add_mul] at hlt
    rw [if_pos (by omega)] at h8
    rw [Nat.zero_add]
    simpa [hu] using h8
theorem Vec.row1 {A : Option Addr} {n c : Nat} (h : Vec w base t en sz (.slice A n c) l) : Row1 w t sz A l.length := by
  intro hn
  rcases h.2 with ⟨_, h2⟩ | ⟨g, cap, cur, h1, h2, h3, h4, h5, h6, h7⟩
  · omega
  · simp at h1
    obtain ⟨rfl, _, _⟩ := h1
    refine ⟨g, fun i => cur.getD i undef, cur.size, rfl, ⟨cur, h3, rfl, fun i hi => by simp [hi]⟩, ?_⟩
    rw [h6]
    exact Nat.mul_le_mul_right _ h4
end

theorem Wr.of_grown {w w' : World} {A : Option Addr} {n c : Nat} (h : w.grownBy w' (Value.ownBlock (.slice A n c))) (hA : ∀ a, A = some a → ∃ g, a = ⟨g, 0, none⟩) : Wr (blkOf A) w w' :=
  ⟨h.os, h.tape, h.output, h.size, fun k hk hn => h.block k hk (fun e => by
    cases A with
    | none => simp [Value.ownBlock] at e
    | some a =>
      obtain ⟨g, rfl⟩ := hA a rfl
      simp [Value.ownBlock] at e
      subst e
      exact hn ⟨0, rfl⟩)⟩

section
variable {P : Program} {w : World} {α : Type} {en : α → List Value}
theorem run_app {base : Nat} (t ty e : TypeId) (z : Value) (size bytes : Nat) (ht : P.underlying t = some (.slice e)) (hi : (P.info? e).map (fun i => (i.zero, i.size, i.bytes)) = some (some z, size, bytes))
    (hzs : z.cells.size = size) (hsz : 0 < size) (hen : ∀ a, (en a).length = size) (h1 : ∀ a, ∀ u ∈ en a, u.oneCell' = true)
    (A : Option Addr) (c : Nat) (l : List α) (hv : Vec w base e en size (.slice A l.length c) l) (A2 : Option Addr) (c2 B2 : Nat) (l2 : List α) (hr : Ls w B2 en size A2 l2)
    (h63 : l.length + l2.length ≤ maxLen) (hbytes : (l.length + l2.length) * bytes ≤ 140737488355328) (hbase : base ≤ w.heap.size) :
    ∃ A' c' w', (Builtin.append_ #[t, t] ty #[.slice A l.length c, .slice A2 l2.length c2]).run P w = .ok (.slice A' (l ++ l2).length c') w' ∧
      Vec w' base e en size (.slice A' (l ++ l2).length c') (l ++ l2) ∧ Wr (blkOf A) w w' := by
  obtain ⟨i0, hi0, hz0, hz1, hz2⟩ := info_parts hi
  have hA : ∀ a, A = some a → ∃ g, a = ⟨g, 0, none⟩ := by
    rintro a rfl
    rcases hv.2 with ⟨h2, _⟩ | ⟨g, cap, cur, h2, _⟩
    · simp at h2
    · simp at h2; exact ⟨g, h2.1⟩
  rcases l2 with _ | ⟨x, l2⟩
  · cases A2 with
    | none =>
      refine ⟨A, c, w, ?_, by simpa using hv, Wr.refl _ _⟩
      rcases hv.2 with ⟨h2, h3⟩ | ⟨g, cap, cur, h2, _, _, h4, _⟩
      · simp at h2
        obtain ⟨rfl, hl, rfl⟩ := h2
        simp [Builtin.append_, run_underlying ht, sizeOf, typeInfo, hi0, Builtin.lenOf, Builtin.firstCells, hl]
      · simp at h2
        obtain ⟨rfl, rfl⟩ := h2
        simp [Builtin.append_, run_underlying ht, sizeOf, typeInfo, hi0, Builtin.lenOf, Builtin.firstCells, h4, storeCells]
    | some ad =>
      obtain ⟨v', w', hrun, h2, h3, _⟩ := run_append_own_at (P := P) w base t ty e i0 z size bytes ht hi0 hz0 hz1 hz2 hzs hsz _ l.length _ hv ad 0 c2 [] (by simp) (by simp) (by simp) (by simpa using h63) (by simpa using hbytes) hbase
      have hv' : Vec w' base e en size v' (l ++ []) := by simpa [Vec] using h2
      obtain ⟨A', c', rfl⟩ := hv'.form
      exact ⟨A', c', w', hrun, hv', Wr.of_grown h3 hA⟩
  · obtain ⟨b, off, rfl, hb, hcell⟩ := hr (by simp)
    have hnews : ∀ j u, ((x :: l2).flatMap en)[j]? = some u → w.cell? ((⟨b, off, none⟩ : Addr).add j) = some u := by
      intro j u hu
      have hj : j < (x :: l2).length * size := by rw [← flat_len hen]; exact (List.getElem?_eq_some_iff.1 hu).1
      have hq : j / size < (x :: l2).length := Nat.div_lt_of_lt_mul (by rw [Nat.mul_comm]; exact hj)
      have hm : j % size < size := Nat.mod_lt _ hsz
      have e1 : j / size * size + j % size = j := by rw [Nat.mul_comm]; exact Nat.div_add_mod j size
      have h3 := flat_get hen (x :: l2) (j / size) hq (j % size) hm
      rw [e1, hu] at h3
      have h4 := hcell (j / size) hq (j % size) u h3.symm
      rw [Addr.add_lit, ← e1, ← Nat.add_assoc]
      exact h4
    obtain ⟨v', w', hrun, h2, h3, _⟩ := run_append_own_at (P := P) w base t ty e i0 z size bytes ht hi0 hz0 hz1 hz2 hzs hsz _ l.length _ hv ⟨b, off, none⟩ (x :: l2).length c2 ((x :: l2).flatMap en) (flat_len hen _) hnews
      (fun u hu => by obtain ⟨a, _, ha⟩ := List.mem_flatMap.1 hu; exact h1 a u ha) h63 hbytes hbase
    have hv' : Vec w' base e en size v' (l ++ (x :: l2)) := by
      have : l.length + (x :: l2).length = (l ++ (x :: l2)).length := by simp
      rw [this] at h2
      simpa [Vec, List.flatMap_append] using h2
    obtain ⟨A', c', rfl⟩ := hv'.form
    exact ⟨A', c', w', hrun, hv', Wr.of_grown h3 hA⟩

theorem wpList_app {ops : Array Oper} {rest : List Oper} {o : Oper} {a : Act} {Q : Exit → Act → World → Prop} (hgd : o.guard = none) (s x : Operand) (t : TypeId)
    (ho : o.op = .call { callee := .builtin .append, args := #[s, x], argTypes := #[t, t] })
    {base : Nat} (e : TypeId) (z : Value) (size bytes : Nat) (ht : P.underlying t = some (.slice e)) (hi : (P.info? e).map (fun i => (i.zero, i.size, i.bytes)) = some (some z, size, bytes))
    (hzs : z.cells.size = size) (hsz : 0 < size) (hen : ∀ a, (en a).length = size) (h1 : ∀ a, ∀ u ∈ en a, u.oneCell' = true)
    (A : Option Addr) (c : Nat) (l : List α) (hs : a.eval s = .slice A l.length c) (hv : Vec w base e en size (.slice A l.length c) l)
    (A2 : Option Addr) (c2 B2 : Nat) (l2 : List α) (hx : a.eval x = .slice A2 l2.length c2) (hr : Ls w B2 en size A2 l2)
    (h63 : l.length + l2.length ≤ maxLen) (hbytes : (l.length + l2.length) * bytes ≤ 140737488355328) (hbase : base ≤ w.heap.size)
    (h : ∀ A' c' w', Vec w' base e en size (.slice A' (l ++ l2).length c') (l ++ l2) → Wr (blkOf A) w w' → wpList P ops Q rest (a.put o.dst (.slice A' (l ++ l2).length c')) w') : wpList P ops Q (o :: rest) a w := by
  obtain ⟨A', c', w', hrun, h2, h3⟩ := run_app (P := P) t o.type e z size bytes ht hi hzs hsz hen h1 A c l hv A2 c2 B2 l2 hr h63 hbytes hbase
  refine wpList_plain hgd fun _ hK => ?_
  unfold Oper.wp execOp
  simp only [ho, resolve, invoke, builtin, Sem.run_bind, Sem.run_pure, Result.andThen_ok, List.map_toArray, List.map_cons, List.map_nil, hs, hx, hrun]
  exact hK _ _ (h A' c' w' h2 h3)
end

/-- A new block of one element, read as a list. -/
theorem Ls.one {α : Type} {en : α → List Value} {sz : Nat} (w : World) (t : TypeId) (cs : Array Value) (x : α) (hx : cs.toList = en x) : Ls (w.alloc (.cells cs t)) (w.heap.size + 1) en sz (some ⟨w.heap.size, 0, none⟩) [x] := fun _ =>
  ⟨w.heap.size, 0, rfl, by omega, fun i hi j u hu => by
    have h0 : i = 0 := by simpa using hi
    subst h0
    simp only [List.getElem_cons_zero] at hu
    rw [(Blk.new w t cs).cell]
    rw [← hx] at hu
    simpa using hu⟩

theorem Ls.one_at {α : Type} {en : α → List Value} {sz : Nat} {w : World} {B : Nat} {t : TypeId} {cs : Array Value} {x : α} (hB : w.heap.size = B) (hx : cs.toList = en x) : Ls (w.alloc (.cells cs t)) (B + 1) en sz (some ⟨B, 0, none⟩) [x] := by
  subst hB
  exact Ls.one w t cs x hx

theorem one_ev (e : Ev) : ∀ u ∈ encEv e, u.oneCell' = true := by simp [encEv, Value.oneCell']
theorem one_rule (e : RuleD) : ∀ u ∈ encRule e, u.oneCell' = true := by simp [encRule, Value.oneCell']
theorem one_rec (e : Rec) : ∀ u ∈ encRec e, u.oneCell' = true := by simp [encRec, Value.oneCell']
theorem one_fn (e : FnD) : ∀ u ∈ encFn e, u.oneCell' = true := by simp [encFn, Value.oneCell']
theorem one_file (e : FileD) : ∀ u ∈ encFile e, u.oneCell' = true := by simp [encFile, Value.oneCell']
theorem one_int (e : Int) : ∀ u ∈ encInt e, u.oneCell' = true := by simp [encInt, Value.oneCell']
theorem one_str (e : ByteArray) : ∀ u ∈ encStr e, u.oneCell' = true := by simp [encStr, Value.oneCell']

/-- What a function that collects a list hands back. -/
def RetS {α : Type} (w : World) (t : TypeId) (en : α → List Value) (sz : Nat) (l : List α) (e : Ending) (w' : World) : Prop :=
  ∃ A c, e = .returned (.slice A l.length c) ∧ Vec w' w.heap.size t en sz (.slice A l.length c) l ∧ Below w.heap.size w w'
/-- .. beside a bool. -/
def RetSB {α : Type} (w : World) (t : TypeId) (en : α → List Value) (sz : Nat) (l : List α) (b : Bool) (e : Ending) (w' : World) : Prop :=
  ∃ A c, e = .returned (.tuple #[.slice A l.length c, .bool b]) ∧ Vec w' w.heap.size t en sz (.slice A l.length c) l ∧ Below w.heap.size w w'

end Go.Proofs.YtopfcfedcmpamaaDoor
