/- What ParseRecord hands back; a record's block, cell by cell. -/
import Derived.Test.YtopfcfedcmpamaaDoorD7
import Derived.Test.YtopfcfedcmpamaaDoorV
namespace Go.Proofs.YtopfcfedcmpamaaDoor
set_option linter.unusedVariables false
set_option linter.unusedSimpArgs false
open Go.RowKit

def keepI (b : Bool) (x : Int) : Int := if b then x else 0
def RetRB (w : World) (id series made : Int) (l : List Ev) (b : Bool) (e : Ending) (w' : World) : Prop :=
  ∃ A c, e = .returned (.tuple #[.agg #[.int .i64 id, .int .i64 series, .int .i64 made, .slice A l.length c], .bool b]) ∧ Vec w' w.heap.size 46 encEv 2 (.slice A l.length c) l ∧ Below w.heap.size w w'
def cellsT (id series made : Int) (v : Value) : Array Value := #[.int .i64 id, .int .i64 series, .int .i64 made, v]
/-- The cells of a record's block, none of them marked. -/
structure CellsT (w : World) (g : Nat) (id series made : Int) (v : Value) : Prop where
  c0 : w.cell? ⟨g, 0, none⟩ = some (.int .i64 id)
  c1 : w.cell? ⟨g, 1, none⟩ = some (.int .i64 series)
  c2 : w.cell? ⟨g, 2, none⟩ = some (.int .i64 made)
  c3 : w.cell? ⟨g, 3, none⟩ = some v
  f0 : w.frozen? ⟨g, 0, none⟩ = false
  f1 : w.frozen? ⟨g, 1, none⟩ = false
  f2 : w.frozen? ⟨g, 2, none⟩ = false
  f3 : w.frozen? ⟨g, 3, none⟩ = false
  lt : g < w.heap.size
theorem Blk.cellsT {w : World} {g : Nat} {t : TypeId} {id series made : Int} {v : Value} (h : Blk w g t (cellsT id series made v)) : CellsT w g id series made v :=
  ⟨h.cell 0, h.cell 1, h.cell 2, h.cell 3, h.frozen 0, h.frozen 1, h.frozen 2, h.frozen 3, h.lt⟩
/-- A slice's block is none that holds cells of another type. -/
theorem Vec.ne_of {α : Type} {w : World} {base sz n c : Nat} {t t' : TypeId} {en : α → List Value} {A : Option Addr} {l : List α} (h : Vec w base t en sz (.slice A n c) l) {g : Nat} {cs : Array Value} (hk : Blk w g t' cs) (ht : t' ≠ t) : ¬ blkOf A g := by
  rintro ⟨o, rfl⟩
  rcases h.2 with ⟨h2, _⟩ | ⟨g', cap, cur, h1, h2, h3, h4⟩
  · simp at h2
  · simp at h1
    obtain ⟨⟨rfl, _⟩, _⟩ := h1
    have e := hk.symm.trans h3
    simp at e
    exact ht e.2

theorem parts_mem {b : UInt8} : ∀ (n : Nat) (l : List UInt8), l.length ≤ n → ∀ p ∈ partsL b l, p.length ≤ l.length
  | n, l, hn, p, hp => by
    by_cases h : b ∈ l
    · have hs := split_idxOf h
      have hlt := List.idxOf_lt_length_of_mem h
      rw [hs, partsL_hit _ take_idxOf_notin] at hp
      rcases List.mem_cons.1 hp with rfl | hp
      · rw [List.length_take]; omega
      · cases n with
        | zero => omega
        | succ n =>
          have := parts_mem n (l.drop (l.idxOf b + 1)) (by rw [List.length_drop]; omega) p hp
          rw [List.length_drop] at this
          omega
    · rw [partsL_none h] at hp
      simp at hp
      rw [hp]; exact Nat.le_refl _
theorem partsA_mem {b : UInt8} {s x : ByteArray} (h : x ∈ partsA b s) : x.size ≤ s.size := by
  unfold partsA at h
  obtain ⟨p, hp, rfl⟩ := List.mem_map.1 h
  have := parts_mem (b := b) _ s.data.toList (Nat.le_refl _) p hp
  rw [ba_len] at this
  exact this

end Go.Proofs.YtopfcfedcmpamaaDoor
