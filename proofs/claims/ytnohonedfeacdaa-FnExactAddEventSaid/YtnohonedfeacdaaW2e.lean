/- Contracts of DropEvent, as the law takes them. -/
import Derived.Test.YtnohonedfeacdaaD2e
import Derived.Test.YtnohonedfeacdaaSe
namespace Go.Proofs.Ytnohonedfeacdaa
set_option linter.unusedVariables false
set_option linter.unusedSimpArgs false
open Go.RowKit
attribute [local go_sem] Aft.cell

/-- A record handed back, its events in memory of the call's own. -/
def RetR (w : World) (id series made : Int) (l : List Ev) (e : Ending) (w' : World) : Prop :=
  ∃ A c, e = .returned (.agg #[.int .i64 id, .int .i64 series, .int .i64 made, .slice A l.length c]) ∧ Vec w' w.heap.size 34 encEv 2 (.slice A l.length c) l ∧ Below w.heap.size w w'
def RetRB (w : World) (id series made : Int) (l : List Ev) (b : Bool) (e : Ending) (w' : World) : Prop :=
  ∃ A c, e = .returned (.tuple #[.agg #[.int .i64 id, .int .i64 series, .int .i64 made, .slice A l.length c], .bool b]) ∧ Vec w' w.heap.size 34 encEv 2 (.slice A l.length c) l ∧ Below w.heap.size w w'

def cellsT (id series made : Int) (v : Value) : Array Value := #[.int .i64 id, .int .i64 series, .int .i64 made, v]
/-- The cells of a record's block, none of them marked. -/
structure CellsT (w : World) (g : Nat) (id series made : Int) (v : Value) : Prop where
  c0 : w.cell? ⟨g, 0, none⟩ = some (.int .i64 id)
  c1 : w.cell? ⟨g, 1, none⟩ = some (.int .i64 series)
  c2 : w.cell? ⟨g, 2, none⟩ = some (.int .i64 made)
  c3 : w.cell? ⟨g, 3, none⟩ = some v
  f0 : w.frozen? ⟨g, 0, none⟩ = false
  f1 : w.frozen? ⟨g, 1, none⟩ = false
  f2 : w.frozen? ⟨g, 2, none⟩ = false
  f3 : w.frozen? ⟨g, 3, none⟩ = false
  lt : g < w.heap.size
theorem Blk.cellsT {w : World} {g : Nat} {t : TypeId} {id series made : Int} {v : Value} (h : Blk w g t (cellsT id series made v)) : CellsT w g id series made v :=
  ⟨h.cell 0, h.cell 1, h.cell 2, h.cell 3, h.frozen 0, h.frozen 1, h.frozen 2, h.frozen 3, h.lt⟩



end Go.Proofs.Ytnohonedfeacdaa
