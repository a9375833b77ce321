/- Periods: the plain words. -/
import Derived.Test.YtjbklopkginegaaW2b
import Derived.Test.YtjbklopkginegaaD4c
namespace Go.Proofs.Ytjbklopkginegaa
set_option linter.unusedVariables false
set_option linter.unusedSimpArgs false
open Go.RowKit

/-- the end of the period of a rule, or -1 -/
def endV (made : Int) (l : List Ev) (e d : Int) : Int := if okD l e then dayR made l e + d else -1
def askB (id series made : Int) (l : List Ev) (rs : List RuleD) : Bool := recB id series made l && schedB rs
theorem dayR_bd {id series made : Int} {l : List Ev} (h : recB id series made l = true) (k : Int) : 0 ≤ dayR made l k ∧ dayR made l k ≤ 20000 := by
  obtain ⟨h1, h2, _, h3⟩ := evB_of_rec h
  unfold dayR
  split
  · exact ⟨h1, h2⟩
  · split
    · rename_i hh
      have h4 := h3 _ (hasE_lt hh)
      rw [dayAt_eq (hasE_lt hh)] at h4
      exact ⟨h4.2.2.1, h4.2.2.2⟩
    · omega
theorem endV_bd {id series made : Int} {l : List Ev} (h : recB id series made l = true) {e d : Int} (hd : 0 ≤ d ∧ d ≤ 20000) : -1 ≤ endV made l e d ∧ endV made l e d ≤ 40000 := by
  have := dayR_bd h e
  unfold endV
  split <;> omega

/-- one rule more: the best one so far and its end -/
def betterB (e due a ba : Int) : Bool := decide (due < e) || (decide (e = due) && decide (a < ba))
def decStep (made : Int) (l : List Ev) (st : RuleD × Int) (r : RuleD) : RuleD × Int :=
  if betterB (endV made l r.e r.d) st.2 r.a st.1.a = true then (r, endV made l r.e r.d) else st
def rule0 : RuleD := ⟨0, 0, 0, 0⟩
def decK (made : Int) (l : List Ev) (rs : List RuleD) (k : Nat) : RuleD × Int := (rs.take k).foldl (decStep made l) (rule0, -1)
theorem decK_succ {made : Int} {l : List Ev} {rs : List RuleD} {k : Nat} (h : k < rs.length) : decK made l rs (k + 1) = decStep made l (decK made l rs k) rs[k] := by
  unfold decK
  rw [List.take_succ_eq_append_getElem h, List.foldl_append]
  rfl
def openB (made : Int) (l : List Ev) (rs : List RuleD) : Bool := rs.any fun r => decide (endV made l r.e r.d < 0)
theorem openB_yes {made : Int} {l : List Ev} {rs : List RuleD} (k : Nat) (h : k < rs.length) (hn : endV made l rs[k].e rs[k].d < 0) : openB made l rs = true := by
  unfold openB
  rw [List.any_eq_true]
  exact ⟨_, List.getElem_mem h, by simpa using hn⟩
theorem openB_no {made : Int} {l : List Ev} {rs : List RuleD} (h : ∀ k (hk : k < rs.length), k < rs.length → 0 ≤ endV made l rs[k].e rs[k].d) : openB made l rs = false := by
  unfold openB
  rw [List.any_eq_false]
  intro r hr
  obtain ⟨k, hk, rfl⟩ := List.mem_iff_getElem.1 hr
  have := h k hk hk
  simp; omega
def decR (made : Int) (l : List Ev) (rs : List RuleD) : RuleD := if openB made l rs then rule0 else (decK made l rs rs.length).1
def decD (made : Int) (l : List Ev) (rs : List RuleD) : Int := if openB made l rs then -1 else (decK made l rs rs.length).2
theorem decR_open {made : Int} {l : List Ev} {rs : List RuleD} (h : openB made l rs = true) : decR made l rs = rule0 := by simp [decR, h]
theorem decD_open {made : Int} {l : List Ev} {rs : List RuleD} (h : openB made l rs = true) : decD made l rs = -1 := by simp [decD, h]
theorem decR_shut {made : Int} {l : List Ev} {rs : List RuleD} (h : openB made l rs = false) : decR made l rs = (decK made l rs rs.length).1 := by simp [decR, h]
theorem decD_shut {made : Int} {l : List Ev} {rs : List RuleD} (h : openB made l rs = false) : decD made l rs = (decK made l rs rs.length).2 := by simp [decD, h]

/-- what the four functions hand back -/
def decRF (id series made : Int) (l : List Ev) (rs : List RuleD) : RuleD := if askB id series made l rs then decR made l (forS rs series) else rule0
def decBF (id series made : Int) (l : List Ev) (rs : List RuleD) : Bool := askB id series made l rs && decide (0 ≤ decD made l (forS rs series))
def dueF (id series made : Int) (l : List Ev) (rs : List RuleD) : Int := if decBF id series made l rs then decD made l (forS rs series) else 0
def isDueB (id series made : Int) (l : List Ev) (rs : List RuleD) (day : Int) : Bool := askB id series made l rs && (decide (0 ≤ day) && decide (day ≤ 20000))
def isDueF (id series made : Int) (l : List Ev) (rs : List RuleD) (day : Int) : Bool := isDueB id series made l rs day && (decide (0 ≤ decD made l (forS rs series)) && decide (decD made l (forS rs series) ≤ day))
def endsK (made : Int) (l : List Ev) (rs : List RuleD) (k : Nat) : List Int := (rs.take k).map fun r => endV made l r.e r.d
theorem endsK_succ {made : Int} {l : List Ev} {rs : List RuleD} {k : Nat} (h : k < rs.length) : endsK made l rs (k + 1) = endsK made l rs k ++ [endV made l rs[k].e rs[k].d] := by
  unfold endsK
  rw [List.take_succ_eq_append_getElem h, List.map_append]
  rfl
theorem endsK_len {made : Int} {l : List Ev} {rs : List RuleD} (k : Nat) (h : k ≤ rs.length) : (endsK made l rs k).length = k := by simp [endsK]; omega
def endsL (id series made : Int) (l : List Ev) (rs : List RuleD) : List Int := if askB id series made l rs then endsK made l (forS rs series) (forS rs series).length else []
theorem endsL_le (id series made : Int) (l : List Ev) (rs : List RuleD) : (endsL id series made l rs).length ≤ rs.length := by
  unfold endsL
  split
  · rw [endsK_len _ (Nat.le_refl _)]; exact forS_le rs series
  · simp

/-- A rule's block: its four cells, none of them marked. -/
def cellsR (r : RuleD) : Array Value := #[.int .i64 r.s, .int .i64 r.e, .int .i64 r.d, .int .i64 r.a]
theorem Blk.setR {w : World} {g : Nat} {t : TypeId} {r : RuleD} (h : Blk w g t (cellsR r)) (r' : RuleD) :
    Blk ((((w.setCell ⟨g, 0, none⟩ (.int .i64 r'.s)).setCell ⟨g, 1, none⟩ (.int .i64 r'.e)).setCell ⟨g, 2, none⟩ (.int .i64 r'.d)).setCell ⟨g, 3, none⟩ (.int .i64 r'.a)) g t (cellsR r') :=
  (((h.set_ 0 (.int .i64 r'.s)).set_ 1 (.int .i64 r'.e)).set_ 2 (.int .i64 r'.d)).set_ 3 (.int .i64 r'.a)
structure CellsR (w : World) (g : Nat) (r : RuleD) : Prop where
  c0 : w.cell? ⟨g, 0, none⟩ = some (.int .i64 r.s)
  c1 : w.cell? ⟨g, 1, none⟩ = some (.int .i64 r.e)
  c2 : w.cell? ⟨g, 2, none⟩ = some (.int .i64 r.d)
  c3 : w.cell? ⟨g, 3, none⟩ = some (.int .i64 r.a)
  f0 : w.frozen? ⟨g, 0, none⟩ = false
  f1 : w.frozen? ⟨g, 1, none⟩ = false
  f2 : w.frozen? ⟨g, 2, none⟩ = false
  f3 : w.frozen? ⟨g, 3, none⟩ = false
  lt : g < w.heap.size
theorem Blk.cellsR {w : World} {g : Nat} {t : TypeId} {r : RuleD} (h : Blk w g t (cellsR r)) : CellsR w g r :=
  ⟨h.cell 0, h.cell 1, h.cell 2, h.cell 3, h.frozen 0, h.frozen 1, h.frozen 2, h.frozen 3, h.lt⟩

end Go.Proofs.Ytjbklopkginegaa
