/- Records and events: the plain words. -/
import Derived.Test.YtopfcfedcmpamaaDoorL
import Derived.Test.YtopfcfedcmpamaaDoorRows
namespace Go.Proofs.YtopfcfedcmpamaaDoor
set_option linter.unusedVariables false
set_option linter.unusedSimpArgs false
open Go.RowKit

theorem Ls.ev {w : World} {B : Nat} {A : Option Addr} {l : List Ev} (h : Ls w B encEv 2 A l) {i : Nat} (hi : i < l.length) :
    ∃ b off, A = some ⟨b, off, none⟩ ∧ b < B ∧ w.cell? ⟨b, off + i * 2, none⟩ = some (.int .i64 l[i].1) ∧ w.cell? ⟨b, off + i * 2 + 1, none⟩ = some (.int .i64 l[i].2) := by
  obtain ⟨b, off, e, hb, hc⟩ := h (by omega)
  exact ⟨b, off, e, hb, hc i hi 0 _ rfl, hc i hi 1 _ rfl⟩
theorem Ls.ev_all {w : World} {B : Nat} {A : Option Addr} {l : List Ev} (h : Ls w B encEv 2 A l) (h0 : 0 < l.length) :
    ∃ b off, A = some ⟨b, off, none⟩ ∧ b < B ∧ ∀ i (hi : i < l.length), w.cell? ⟨b, off + i * 2, none⟩ = some (.int .i64 l[i].1) ∧ w.cell? ⟨b, off + i * 2 + 1, none⟩ = some (.int .i64 l[i].2) := by
  obtain ⟨b, off, e, hb, hc⟩ := h h0
  exact ⟨b, off, e, hb, fun i hi => ⟨hc i hi 0 _ rfl, hc i hi 1 _ rfl⟩⟩

def kindAt (l : List Ev) (i : Nat) : Int := (l.getD i (0, 0)).1
theorem kindAt_eq {l : List Ev} {i : Nat} (h : i < l.length) : l[i].1 = kindAt l i := by simp [kindAt, List.getD_eq_getElem?_getD, h]
/-- an event is valid -/
def evB (k d : Int) : Bool := decide (1 ≤ k) && decide (k ≤ 9) && (decide (0 ≤ d) && decide (d ≤ 20000))
/-- the event at i is valid in its place -/
def evAtB (made : Int) (l : List Ev) (i : Nat) : Bool :=
  match l[i]? with
  | some e => evB e.1 e.2 && !decide (e.2 < made) && !(decide (0 < i) && decide (e.1 ≤ kindAt l (i - 1)))
  | none => true
def evsB (made : Int) (l : List Ev) : Bool := (List.range l.length).all (evAtB made l)
def recB (id series made : Int) (l : List Ev) : Bool :=
  (decide (1 ≤ id) && decide (id ≤ 999)) && (decide (1 ≤ series) && decide (series ≤ 99)) && (decide (0 ≤ made) && decide (made ≤ 20000)) && decide (l.length ≤ 6) && evsB made l


theorem recB_no {id series made : Int} {l : List Ev} (h : ¬ (1 ≤ id ∧ id ≤ 999 ∧ 1 ≤ series ∧ series ≤ 99 ∧ 0 ≤ made ∧ made ≤ 20000 ∧ (l.length : Int) ≤ 6)) : recB id series made l = false := by
  cases hr : recB id series made l
  · rfl
  · exfalso; apply h
    simp [recB] at hr
    omega
theorem recB_bad {id series made : Int} {l : List Ev} (i : Nat) (hi : i < l.length) (h : evAtB made l i = false) : recB id series made l = false := by
  have : evsB made l = false := by
    unfold evsB
    rw [List.all_eq_false]
    exact ⟨i, List.mem_range.2 hi, by simp [h]⟩
  simp [recB, this]
theorem recB_yes {id series made : Int} {l : List Ev} (h : 1 ≤ id ∧ id ≤ 999 ∧ 1 ≤ series ∧ series ≤ 99 ∧ 0 ≤ made ∧ made ≤ 20000 ∧ (l.length : Int) ≤ 6) (ha : ∀ i, i < l.length → evAtB made l i = true) : recB id series made l = true := by
  have : evsB made l = true := by
    unfold evsB
    rw [List.all_eq_true]
    exact fun i hi => ha i (List.mem_range.1 hi)
  simp [recB, this]
  omega


theorem evAtB_cases {made : Int} {l : List Ev} {k : Nat} (hlt : k < l.length) :
    (evB l[k].1 l[k].2 = false ∧ evAtB made l k = false) ∨
    (evB l[k].1 l[k].2 = true ∧ decide (l[k].2 < made) = true ∧ evAtB made l k = false) ∨
    (evB l[k].1 l[k].2 = true ∧ decide (l[k].2 < made) = false ∧ decide (0 < k) = false ∧ evAtB made l k = true) ∨
    (evB l[k].1 l[k].2 = true ∧ decide (l[k].2 < made) = false ∧ decide (0 < k) = true ∧ decide (l[k].1 ≤ kindAt l (k - 1)) = true ∧ evAtB made l k = false) ∨
    (evB l[k].1 l[k].2 = true ∧ decide (l[k].2 < made) = false ∧ decide (0 < k) = true ∧ decide (l[k].1 ≤ kindAt l (k - 1)) = false ∧ evAtB made l k = true) := by
  have e : evAtB made l k = (evB l[k].1 l[k].2 && !decide (l[k].2 < made) && !(decide (0 < k) && decide (l[k].1 ≤ kindAt l (k - 1)))) := by
    simp [evAtB, hlt]
  rw [e]
  cases evB l[k].1 l[k].2 <;> cases decide (l[k].2 < made) <;> cases decide (0 < k) <;> cases decide (l[k].1 ≤ kindAt l (k - 1)) <;> simp

end Go.Proofs.YtopfcfedcmpamaaDoor
