/- Plain words for memory that all later texts of this seat use: a slice that reads as a list of cells, regions whose calls only make new memory. -/
import Derived.WalkKit
import Derived.WalkSpells
import Derived.WalkLawsBesides
import Derived.BigQuiet
import Derived.Deep.QuietTactic
import Derived.Lib.Hide
namespace Go.Proofs.YtopfcfedcmpamaaDoor
set_option linter.unusedVariables false
set_option linter.unusedSimpArgs false
open Go.RowKit

/-- The worlds that a call from w may leave: below w's heap nothing has turned. -/
structure Aft (w0 : World) where
  w : World
  h : Below w0.heap.size w0 w

instance Aft.some (w0 : World) : Nonempty (Aft w0) := ⟨⟨w0, Below.refl _ _⟩⟩

theorem below_drewN {B : Nat} {a w : World} (h : Below B a w) (n : Nat) : Below B a (w.drewN n) := ⟨h.os, h.tape, h.output, h.size, h.block⟩

section
variable {P : Program}
theorem wp_region_calm {id : Nat} {Q : Exit → Act → World → Prop} {a : Act} {w : World} {l : List Oper} (hm : P.follows .mixedOrders = true) (hB : Region.lexB .any l.toArray = true)
    (h : wpQuiet P l.toArray (fun w' => ∃ x : Aft w, w' = x.w) (fun a' => ∀ w', (∃ x : Aft w, w' = x.w) → Q .normal a' w') l a) : (Code.region id l.toArray true).wp P Q a w :=
  wp_region_quiet (C := fun w' => ∃ x : Aft w, w' = x.w) hm hB ⟨⟨_, (Below.refl _ w).drew⟩, rfl⟩ (by simpa using h)

theorem Calls.calm {f : FuncId} {args : Array Value} {w : World} {x : Aft w} {v : Value}
    (h : Calls P f args x.w fun e w' => e = .returned v ∧ Below x.w.heap.size x.w w') : Calls P f args x.w fun e w'' => e = .returned v ∧ ∃ y : Aft w, w'' = y.w :=
  h.mono fun _ w' ⟨he, hb⟩ => ⟨he, ⟨w', x.h.trans (hb.mono x.h.size)⟩, rfl⟩
theorem Calls.calm_same {f : FuncId} {args : Array Value} {w : World} {x : Aft w} {v : Value}
    (h : Calls P f args x.w fun e w' => e = .returned v ∧ x.w = w') : Calls P f args x.w fun e w'' => e = .returned v ∧ ∃ y : Aft w, w'' = y.w :=
  h.mono fun _ _ ⟨he, hb⟩ => ⟨he, x, hb.symm⟩
end

theorem Aft.cell {w0 : World} (x : Aft w0) {b o : Nat} (h : b < w0.heap.size) : x.w.cell? ⟨b, o, none⟩ = w0.cell? ⟨b, o, none⟩ := x.h.cell (p := ⟨b, o, none⟩) h

/-- One call behind another. -/
theorem blw {w a b : World} (h : Below w.heap.size w a) (k : Below a.heap.size a b) : Below w.heap.size w b := h.trans (k.mono h.size)
theorem blw_alloc {w a : World} (h : Below w.heap.size w a) (o : Obj) : Below w.heap.size w (a.alloc o) := h.alloc h.size o
theorem ret_bool {a b : Bool} (h : a = b) : Ending.returned (.bool a) = .returned (.bool b) := by rw [h]
theorem ret_int {k : IntKind} {a b : Int} (h : a = b) : Ending.returned (.int k a) = .returned (.int k b) := by rw [h]

theorem bcell {W w1 : World} (hb : Below W.heap.size W w1) : (∀ b o, b < W.heap.size → w1.cell? ⟨b, o, none⟩ = W.cell? ⟨b, o, none⟩) ∧ (∀ b o, b < W.heap.size → w1.frozen? ⟨b, o, none⟩ = W.frozen? ⟨b, o, none⟩) :=
  ⟨fun b o h => hb.cell (p := ⟨b, o, none⟩) h, fun b o h => hb.frozen (p := ⟨b, o, none⟩) h⟩


/-- The slice value '.slice A n c' holds the cells xs (n elements of sz cells), below block B. -/
def Rd (w : World) (B sz : Nat) (A : Option Addr) (n : Nat) (xs : List Value) : Prop :=
  xs.length = n * sz ∧ (0 < n → ∃ b off, A = some ⟨b, off, none⟩ ∧ b < B ∧ ∀ j u, xs[j]? = some u → w.cell? ⟨b, off + j, none⟩ = some u)

section
variable {w w' : World} {B B' sz n : Nat} {A : Option Addr} {xs : List Value}
theorem Rd.keep (h : Rd w B sz A n xs) (hk : ∀ b o, b < B → w'.cell? ⟨b, o, none⟩ = w.cell? ⟨b, o, none⟩) : Rd w' B sz A n xs :=
  ⟨h.1, fun hn => by
    obtain ⟨b, off, e, hb, hc⟩ := h.2 hn
    exact ⟨b, off, e, hb, fun j u hu => (hk _ _ hb).trans (hc j u hu)⟩⟩
theorem Rd.more (h : Rd w B sz A n xs) (hB : B ≤ B') : Rd w B' sz A n xs :=
  ⟨h.1, fun hn => by
    obtain ⟨b, off, e, hb, hc⟩ := h.2 hn
    exact ⟨b, off, e, by omega, hc⟩⟩
theorem Rd.below (h : Rd w B sz A n xs) (hb : Below B w w') : Rd w' B sz A n xs := h.keep fun b o hp => hb.cell (p := ⟨b, o, none⟩) hp
end

/-- A list of elements, each laid as the cells that enc gives. -/
def Ls {α : Type} (w : World) (B : Nat) (enc : α → List Value) (sz : Nat) (A : Option Addr) (l : List α) : Prop :=
  0 < l.length → ∃ b off, A = some ⟨b, off, none⟩ ∧ b < B ∧ ∀ i (hi : i < l.length) j u, (enc l[i])[j]? = some u → w.cell? ⟨b, off + i * sz + j, none⟩ = some u

section
variable {α : Type} {w w' : World} {B B' sz : Nat} {enc : α → List Value} {A : Option Addr} {l : List α}
theorem Ls.keep (h : Ls w B enc sz A l) (hk : ∀ b o, b < B → w'.cell? ⟨b, o, none⟩ = w.cell? ⟨b, o, none⟩) : Ls w' B enc sz A l := fun hn => by
  obtain ⟨b, off, e, hb, hc⟩ := h hn
  exact ⟨b, off, e, hb, fun i hi j u hu => (hk _ _ hb).trans (hc i hi j u hu)⟩
theorem Ls.more (h : Ls w B enc sz A l) (hB : B ≤ B') : Ls w B' enc sz A l := fun hn => by
  obtain ⟨b, off, e, hb, hc⟩ := h hn
  exact ⟨b, off, e, by omega, hc⟩
theorem Ls.below (h : Ls w B enc sz A l) (hb : Below B w w') : Ls w' B enc sz A l := h.keep fun b o hp => hb.cell (p := ⟨b, o, none⟩) hp
theorem Ls.alloc (h : Ls w B enc sz A l) (hB : B ≤ w.heap.size) (o : Obj) : Ls (w.alloc o) B enc sz A l := h.below ((Below.refl _ _).alloc hB o)
end


/-- Block g is just the cells cs of element type t, none of them marked. -/
def Blk (w : World) (g : Nat) (t : TypeId) (cs : Array Value) : Prop := w.heap[g]? = some (.cells cs t (0, 0))
section
variable {w w' : World} {g : Nat} {t : TypeId} {cs : Array Value}
theorem Blk.lt (h : Blk w g t cs) : g < w.heap.size := (Array.getElem?_eq_some_iff.1 h).1
theorem Blk.cell (h : Blk w g t cs) (i : Nat) : w.cell? ⟨g, i, none⟩ = cs[i]? := cell_of_row w g i cs t (0, 0) h
theorem Blk.frozen (h : Blk w g t cs) (i : Nat) : w.frozen? ⟨g, i, none⟩ = false := by
  unfold Blk at h
  simp [World.frozen?, h]
theorem Blk.new (w : World) (t : TypeId) (cs : Array Value) : Blk (w.alloc (.cells cs t)) w.heap.size t cs := heap_alloc_new w _
theorem Blk.alloc (h : Blk w g t cs) (o : Obj) : Blk (w.alloc o) g t cs := (Below.heap_alloc w o g h.lt).trans h
theorem Blk.below {B : Nat} (h : Blk w g t cs) (hb : Below B w w') (hg : g < B) : Blk w' g t cs := (hb.block g hg).trans h
theorem Blk.set_ (h : Blk w g t cs) (i : Nat) (u : Value) : Blk (w.setCell ⟨g, i, none⟩ u) g t (cs.setIfInBounds i u) := by
  unfold Blk at h ⊢
  simp [World.setCell, Array.getElem?_modify, h]
theorem Blk.far (h : Blk w g t cs) {p : Addr} (hp : g ≠ p.block) (u : Value) : Blk (w.setCell p u) g t cs := (Below.heap_setCell w p u g hp).trans h
end

/-- Block g holds the m cells that f gives. -/
def RowF (w : World) (g : Nat) (t : TypeId) (m : Nat) (f : Nat → Value) : Prop := ∃ cs, Blk w g t cs ∧ cs.size = m ∧ ∀ i, i < m → cs[i]? = some (f i)
section
variable {w w' : World} {g : Nat} {t : TypeId} {m : Nat} {f : Nat → Value}
theorem RowF.lt (h : RowF w g t m f) : g < w.heap.size := h.choose_spec.1.lt
theorem RowF.cell (h : RowF w g t m f) {i : Nat} (hi : i < m) : w.cell? ⟨g, i, none⟩ = some (f i) := by
  obtain ⟨cs, hb, _, hc⟩ := h
  rw [hb.cell, hc i hi]
theorem RowF.frozen (h : RowF w g t m f) (i : Nat) : w.frozen? ⟨g, i, none⟩ = false := h.choose_spec.1.frozen i
theorem RowF.below {B : Nat} (h : RowF w g t m f) (hb : Below B w w') (hg : g < B) : RowF w' g t m f := by
  obtain ⟨cs, h1, h2⟩ := h
  exact ⟨cs, h1.below hb hg, h2⟩
theorem RowF.alloc (h : RowF w g t m f) (o : Obj) : RowF (w.alloc o) g t m f := by
  obtain ⟨cs, h1, h2⟩ := h
  exact ⟨cs, h1.alloc o, h2⟩
theorem RowF.far (h : RowF w g t m f) {p : Addr} (hp : g ≠ p.block) (u : Value) : RowF (w.setCell p u) g t m f := by
  obtain ⟨cs, h1, h2⟩ := h
  exact ⟨cs, h1.far hp u, h2⟩
theorem RowF.set_ (h : RowF w g t m f) (i : Nat) (u : Value) : RowF (w.setCell ⟨g, i, none⟩ u) g t m (fun j => if j = i then u else f j) := by
  obtain ⟨cs, h1, h2, h3⟩ := h
  refine ⟨_, h1.set_ i u, by simpa using h2, fun j hj => ?_⟩
  rw [Array.getElem?_setIfInBounds]
  by_cases hji : i = j
  · subst hji
    simp [h2, hj]
  · rw [if_neg hji]
    show cs[j]? = some (if j = i then u else f j)
    rw [if_neg (Ne.symm hji)]
    exact h3 j hj
theorem RowF.congr {f' : Nat → Value} (h : RowF w g t m f) (he : ∀ i, i < m → f i = f' i) : RowF w g t m f' := by
  obtain ⟨cs, h1, h2, h3⟩ := h
  exact ⟨cs, h1, h2, fun i hi => by rw [h3 i hi, he i hi]⟩
theorem RowF.made (w : World) (t : TypeId) (z : Array Value) (m : Nat) : RowF (w.alloc (.cells (madeCells z m) t)) w.heap.size t m (fun i => z[i % z.size]!) :=
  ⟨_, Blk.new w t _, size_madeCells _ _, fun i hi => by simp [madeCells, hi]⟩
/-- the row reads as a list of elements -/
theorem RowF.ls {α : Type} {en : α → List Value} {sz : Nat} {l : List α} (h : RowF w g t (l.length * sz) f) (hen : ∀ a, (en a).length = sz)
    (hf : ∀ i (hi : i < l.length) j u, (en l[i])[j]? = some u → f (i * sz + j) = u) : Ls w w.heap.size en sz (some ⟨g, 0, none⟩) l := fun _ =>
  ⟨g, 0, rfl, h.lt, fun i hi j u hu => by
    have hj : j < sz := by rw [← hen l[i]]; exact (List.getElem?_eq_some_iff.1 hu).1
    have hlt : i * sz + j < l.length * sz := by
      have : (i + 1) * sz ≤ l.length * sz := Nat.mul_le_mul_right _ hi
      rw [Nat.add_mul] at this
      omega
    rw [Nat.zero_add, h.cell hlt, hf i hi j u hu]⟩
end

/-- Block g is a row of the elements l, each laid as the cells that en gives. -/
def Own {α : Type} (w : World) (g : Nat) (t : TypeId) (en : α → List Value) (sz : Nat) (l : List α) : Prop :=
  ∃ f, RowF w g t (l.length * sz) f ∧ ∀ i (hi : i < l.length) j u, (en l[i])[j]? = some u → f (i * sz + j) = u
section
variable {α : Type} {w w' : World} {g : Nat} {t : TypeId} {en : α → List Value} {sz : Nat} {l : List α}
theorem Own.lt (h : Own w g t en sz l) : g < w.heap.size := h.choose_spec.1.lt
theorem Own.ls (h : Own w g t en sz l) (hen : ∀ a, (en a).length = sz) : Ls w w.heap.size en sz (some ⟨g, 0, none⟩) l := by
  obtain ⟨f, h1, h2⟩ := h
  exact h1.ls hen h2
theorem Own.below {B : Nat} (h : Own w g t en sz l) (hb : Below B w w') (hg : g < B) : Own w' g t en sz l := by
  obtain ⟨f, h1, h2⟩ := h
  exact ⟨f, h1.below hb hg, h2⟩
theorem Own.alloc (h : Own w g t en sz l) (o : Obj) : Own (w.alloc o) g t en sz l := by
  obtain ⟨f, h1, h2⟩ := h
  exact ⟨f, h1.alloc o, h2⟩
end

theorem Own.far {α : Type} {w : World} {g : Nat} {t : TypeId} {en : α → List Value} {sz : Nat} {l : List α} (h : Own w g t en sz l) {p : Addr} (hp : g ≠ p.block) (u : Value) : Own (w.setCell p u) g t en sz l := by
  obtain ⟨f, h1, h2⟩ := h
  exact ⟨f, h1.far hp u, h2⟩

/-- Only blocks in S were written; nothing else that was there has turned. -/
structure Wr (S : Nat → Prop) (w w' : World) : Prop where
  os : w'.os = w.os
  tape : w'.tape = w.tape
  output : w'.output = w.output
  size : w.heap.size ≤ w'.heap.size
  block : ∀ k, k < w.heap.size → ¬ S k → w'.heap[k]? = w.heap[k]?
section
variable {S S' : Nat → Prop} {a b c w w' : World}
theorem Wr.refl (S : Nat → Prop) (w : World) : Wr S w w := ⟨rfl, rfl, rfl, Nat.le_refl _, fun _ _ _ => rfl⟩
theorem Wr.trans (h : Wr S a b) (k : Wr S b c) : Wr S a c :=
  ⟨k.os.trans h.os, k.tape.trans h.tape, k.output.trans h.output, Nat.le_trans h.size k.size, fun i hi hn => (k.block i (Nat.lt_of_lt_of_le hi h.size) hn).trans (h.block i hi hn)⟩
theorem Wr.mono (h : Wr S a b) (hs : ∀ k, S k → S' k) : Wr S' a b := ⟨h.os, h.tape, h.output, h.size, fun i hi hn => h.block i hi (fun hk => hn (hs i hk))⟩
theorem Wr.of_below (h : Below a.heap.size a b) : Wr S a b := ⟨h.os, h.tape, h.output, h.size, fun i hi _ => h.block i hi⟩
theorem Wr.setCell (h : Wr S a b) {p : Addr} (hp : S p.block ∨ a.heap.size ≤ p.block) (u : Value) : Wr S a (b.setCell p u) :=
  ⟨h.os, h.tape, h.output, by simpa [World.setCell] using h.size, fun i hi hn => (Below.heap_setCell b p u i (by
    rintro rfl
    rcases hp with hp | hp
    · exact hn hp
    · omega)).trans (h.block i hi hn)⟩
theorem Wr.alloc (h : Wr S a b) (o : Obj) : Wr S a (b.alloc o) :=
  ⟨h.os, h.tape, h.output, by have := h.size; simp; omega, fun i hi hn => (Below.heap_alloc b o i (Nat.lt_of_lt_of_le hi h.size)).trans (h.block i hi hn)⟩
theorem Wr.drew (h : Wr S a b) : Wr S a b.drew := ⟨h.os, h.tape, h.output, h.size, h.block⟩
theorem Wr.below {B : Nat} (h : Wr S a b) (hB : B ≤ a.heap.size) (hs : ∀ k, S k → B ≤ k) : Below B a b :=
  ⟨h.os, h.tape, h.output, h.size, fun k hk => h.block k (by omega) (fun hS => by have := hs k hS; omega)⟩
theorem Wr.cell (h : Wr S a b) {k o : Nat} (hk : k < a.heap.size) (hn : ¬ S k) : b.cell? ⟨k, o, none⟩ = a.cell? ⟨k, o, none⟩ := World.cell?_of_block (w := a) (a := ⟨k, o, none⟩) (h.block k hk hn)
theorem Blk.wr {g : Nat} {t : TypeId} {cs : Array Value} (h : Blk a g t cs) (hw : Wr S a b) (hn : ¬ S g) : Blk b g t cs := (hw.block g h.lt hn).trans h
theorem RowF.wr {g : Nat} {t : TypeId} {m : Nat} {f : Nat → Value} (h : RowF a g t m f) (hw : Wr S a b) (hn : ¬ S g) : RowF b g t m f := by
  obtain ⟨cs, h1, h2⟩ := h
  exact ⟨cs, h1.wr hw hn, h2⟩
theorem Own.wr {α : Type} {g : Nat} {t : TypeId} {en : α → List Value} {sz : Nat} {l : List α} (h : Own a g t en sz l) (hw : Wr S a b) (hn : ¬ S g) : Own b g t en sz l := by
  obtain ⟨f, h1, h2⟩ := h
  exact ⟨f, h1.wr hw hn, h2⟩
end


/-- The elements, and the cells of each. -/
abbrev Ev := Int × Int
def encEv (e : Ev) : List Value := [.int .i64 e.1, .int .i64 e.2]
structure RuleD where
  s : Int
  e : Int
  d : Int
  a : Int
def encRule (r : RuleD) : List Value := [.int .i64 r.s, .int .i64 r.e, .int .i64 r.d, .int .i64 r.a]
structure Rec where
  id : Int
  series : Int
  made : Int
  A : Option Addr
  c : Nat
  evs : List Ev
def encRec (r : Rec) : List Value := [.int .i64 r.id, .int .i64 r.series, .int .i64 r.made, .slice r.A r.evs.length r.c]
structure FnD where
  id : Int
  parent : Int
  name : ByteArray
def encFn (f : FnD) : List Value := [.int .i64 f.id, .int .i64 f.parent, .string f.name]
structure FileD where
  id : Int
  series : Int
  title : ByteArray
  opened : Int
  closed : Int
  state : Int
  pages : Int
def encFile (f : FileD) : List Value := [.int .i64 f.id, .int .i64 f.series, .string f.title, .int .i64 f.opened, .int .i64 f.closed, .int .i64 f.state, .int .i64 f.pages]
def encInt (n : Int) : List Value := [.int .i64 n]
def encStr (s : ByteArray) : List Value := [.string s]

/-- An int of 64 bits. -/
def Rng (n : Int) : Prop := -9223372036854775808 ≤ n ∧ n ≤ 9223372036854775807
def okEv (e : Ev) : Prop := Rng e.1 ∧ Rng e.2
def okRule (r : RuleD) : Prop := Rng r.s ∧ Rng r.e ∧ Rng r.d ∧ Rng r.a
def okFn (f : FnD) : Prop := Rng f.id ∧ Rng f.parent ∧ f.name.size ≤ maxLen
def okFile (f : FileD) : Prop := Rng f.id ∧ Rng f.series ∧ f.title.size ≤ maxLen ∧ Rng f.opened ∧ Rng f.closed ∧ Rng f.state ∧ Rng f.pages
def okRec (w : World) (r : Rec) : Prop := Rng r.id ∧ Rng r.series ∧ Rng r.made ∧ Ls w w.heap.size encEv 2 r.A r.evs ∧ (∀ e ∈ r.evs, okEv e) ∧ r.evs.length ≤ maxLen
/-- A slice that came in. -/
def okSl {α : Type} (w : World) (en : α → List Value) (sz : Nat) (ok : α → Prop) (A : Option Addr) (l : List α) : Prop := Ls w w.heap.size en sz A l ∧ (∀ a ∈ l, ok a) ∧ l.length ≤ maxLen


/-- f, but u at i. -/
def upd (f : Nat → Value) (i : Nat) (u : Value) : Nat → Value := fun j => if j = i then u else f j
theorem upd_same (f : Nat → Value) (i : Nat) (u : Value) : upd f i u i = u := by simp [upd]
theorem upd_other {f : Nat → Value} {i j : Nat} {u : Value} (h : j ≠ i) : upd f i u j = f j := by simp [upd, h]
theorem RowF.put {w : World} {g : Nat} {t : TypeId} {m : Nat} {f : Nat → Value} (h : RowF w g t m f) (i : Nat) (u : Value) : RowF (w.setCell ⟨g, i, none⟩ u) g t m (upd f i u) := h.set_ i u

/-- The first k elements stand in the row f. -/
def Fill {α : Type} (en : α → List Value) (sz : Nat) (l : List α) (k : Nat) (f : Nat → Value) : Prop := ∀ i (hi : i < l.length), i < k → ∀ j u, (en l[i])[j]? = some u → f (i * sz + j) = u
theorem Fill.zero {α : Type} {en : α → List Value} {sz : Nat} {l : List α} {f : Nat → Value} : Fill en sz l 0 f := fun _ _ h => absurd h (Nat.not_lt_zero _)
theorem Fill.step {α : Type} {en : α → List Value} {sz : Nat} {l : List α} {f f' : Nat → Value} {k : Nat} (h : Fill en sz l k f) (hk : k < l.length) (hen : ∀ a, (en a).length = sz)
    (hnew : ∀ j u, (en l[k])[j]? = some u → f' (k * sz + j) = u) (hkeep : ∀ m, m < k * sz → f' m = f m) : Fill en sz l (k + 1) f' := by
  intro i hi hik j u hu
  rcases Nat.lt_succ_iff_lt_or_eq.1 hik with h1 | rfl
  · have hj : j < sz := by rw [← hen l[i]]; exact (List.getElem?_eq_some_iff.1 hu).1
    have h2 : (i + 1) * sz ≤ k * sz := Nat.mul_le_mul_right _ h1
    rw [Nat.add_mul] at h2
    rw [hkeep _ (by omega)]
    exact h i hi h1 j u hu
  · exact hnew j u hu
theorem Fill.own {α : Type} {en : α → List Value} {sz : Nat} {l : List α} {f : Nat → Value} {w : World} {g : Nat} {t : TypeId} (h : Fill en sz l l.length f) (hr : RowF w g t (l.length * sz) f) : Own w g t en sz l :=
  ⟨f, hr, fun i hi j u hu => h i hi hi j u hu⟩
theorem Fill.ls {α : Type} {en : α → List Value} {sz : Nat} {l : List α} {f : Nat → Value} {w : World} {g m : Nat} {t : TypeId} (h : Fill en sz l l.length f) (hr : RowF w g t m f) (hen : ∀ a, (en a).length = sz) (hm : l.length * sz ≤ m) :
    Ls w w.heap.size en sz (some ⟨g, 0, none⟩) l := fun _ => ⟨g, 0, rfl, hr.lt, fun i hi j u hu => by
    have hj : j < sz := by rw [← hen l[i]]; exact (List.getElem?_eq_some_iff.1 hu).1
    have hlt : (i + 1) * sz ≤ l.length * sz := Nat.mul_le_mul_right _ hi
    rw [Nat.add_mul] at hlt
    rw [Nat.zero_add, hr.cell (by omega), h i hi hi j u hu]⟩

/-- What a function that makes a slice of a list hands back. -/
def MadeS {α : Type} (w : World) (t : TypeId) (en : α → List Value) (sz : Nat) (l : List α) (e : Ending) (w' : World) : Prop :=
  ∃ g, w.heap.size ≤ g ∧ e = .returned (.slice (some ⟨g, 0, none⟩) l.length l.length) ∧ Own w' g t en sz l ∧ Below w.heap.size w w'

/-- The row that a slice of n elements may be written through. -/
def Row1 (w : World) (t : TypeId) (sz : Nat) (A : Option Addr) (n : Nat) : Prop := 0 < n → ∃ g f m, A = some ⟨g, 0, none⟩ ∧ RowF w g t m f ∧ n * sz ≤ m
/-- The block of an address. -/
def blkOf (A : Option Addr) (b : Nat) : Prop := ∃ o, A = some ⟨b, o, none⟩
theorem Own.row1 {α : Type} {en : α → List Value} {sz : Nat} {l : List α} {w : World} {g : Nat} {t : TypeId} (h : Own w g t en sz l) : Row1 w t sz (some ⟨g, 0, none⟩) l.length := fun _ => by
  obtain ⟨f, h1, _⟩ := h
  exact ⟨g, f, _, rfl, h1, Nat.le_refl _⟩
/-- What a function that marks a slice hands back: the number behind the last mark; the marks stand there. -/
def MarkS {α : Type} (w : World) (en : α → List Value) (sz : Nat) (A : Option Addr) (l : List α) (k : Int) (e : Ending) (w' : World) : Prop :=
  e = .returned (.int .i64 k) ∧ Wr (blkOf A) w w' ∧ Ls w' w'.heap.size en sz A l

section
variable {P : Program}
theorem run_make_rowN (t e : TypeId) (i : TypeInfo) (z : Value) (ht : P.underlying t = some (.slice e)) (hi : P.info? e = some i) (hz : i.zero = some z)
    (kl kc : IntKind) (n c : Nat) (hnc : n ≤ c) (hbytes : i.bytes * c ≤ 281474976710656) (h63 : c ≤ 9223372036854775807) (w : World) :
    (Instr.makeSlice t (.int kl (n : Int)) (.int kc (c : Int))).run P w = .ok (.slice (some ⟨w.heap.size, 0, none⟩) n c) (w.alloc (.cells (madeCells z.cells (c * i.size)) e)) := by
  have hb : (i.bytes : Int) * (c : Int) ≤ 281474976710656 := by
    have h : ((i.bytes * c : Nat) : Int) ≤ 281474976710656 := by omega
    rwa [Int.natCast_mul] at h
  have hr := run_make (P := P) w t e i z ht hi hz kl kc n c (by omega) (by omega) hb (by omega)
  simp only [Int.toNat_natCast] at hr
  exact hr
theorem run_make_of {t e : TypeId} {z : Value} {size bytes : Nat} (ht : P.underlying t = some (.slice e)) (hi : (P.info? e).map (fun i => (i.zero, i.size, i.bytes)) = some (some z, size, bytes))
    (n : Nat) (hbytes : bytes * n ≤ 281474976710656) (h63 : n ≤ 9223372036854775807) (w : World) :
    (Instr.makeSlice t (.int .i64 (n : Int)) (.int .i64 (n : Int))).run P w = .ok (.slice (some ⟨w.heap.size, 0, none⟩) n n) (w.alloc (.cells (madeCells z.cells (n * size)) e)) := by
  obtain ⟨i0, h1, h2, h3, h4⟩ := info_parts hi
  subst h3 h4
  exact run_make_rowN t e i0 z ht h1 h2 _ _ n n (Nat.le_refl _) hbytes h63 w
end

theorem encEv_len (e : Ev) : (encEv e).length = 2 := rfl
theorem encRule_len (e : RuleD) : (encRule e).length = 4 := rfl
theorem encRec_len (e : Rec) : (encRec e).length = 4 := rfl
theorem encFn_len (e : FnD) : (encFn e).length = 3 := rfl
theorem encFile_len (e : FileD) : (encFile e).length = 7 := rfl
theorem encInt_len (e : Int) : (encInt e).length = 1 := rfl
theorem encStr_len (e : ByteArray) : (encStr e).length = 1 := rfl

/-- What a function that counts the size of an argument hands back: what is left, or -1. -/
def SzS (w : World) (left : Int) (P : Prop) (e : Ending) (w' : World) : Prop := ∃ r : Int, e = .returned (.int .i64 r) ∧ r ≤ left ∧ -1 ≤ r ∧ (0 ≤ r → P) ∧ Below w.heap.size w w'
theorem Ls.wr {α : Type} {en : α → List Value} {sz B : Nat} {A : Option Addr} {l : List α} {S : Nat → Prop} {a b : World} (h : Ls a B en sz A l) (hw : Wr S a b) (hs : ∀ k, S k → B ≤ k) (hB : B ≤ a.heap.size) : Ls b B en sz A l := fun hn => by
  obtain ⟨g, off, e, hb, hc⟩ := h hn
  exact ⟨g, off, e, hb, fun i hi j u hu => (hw.cell (by omega) (fun hS => by have := hs g hS; omega)).trans (hc i hi j u hu)⟩

end Go.Proofs.YtopfcfedcmpamaaDoor
