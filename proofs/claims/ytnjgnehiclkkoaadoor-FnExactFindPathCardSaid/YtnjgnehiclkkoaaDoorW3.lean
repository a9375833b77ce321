/- Contracts of the functions of l3_functions.go that speak of one function. -/
import Derived.Test.YtnjgnehiclkkoaaDoorWi
import Derived.Test.YtnjgnehiclkkoaaDoorWw
import Derived.Test.YtnjgnehiclkkoaaDoorHFunction
namespace Go.Proofs.YtnjgnehiclkkoaaDoor
set_option linter.unusedVariables false
set_option linter.unusedSimpArgs false
open Go.RowKit
attribute [local go_sem] Aft.cell

/-- A function's block: its three cells. -/
structure FnBox (W : World) (p : Nat) (f : FnD) : Prop where
  c0 : W.cell? ⟨p, 0, none⟩ = some (.int .i64 f.id)
  c1 : W.cell? ⟨p, 1, none⟩ = some (.int .i64 f.parent)
  c2 : W.cell? ⟨p, 2, none⟩ = some (.string f.name)
  lt : p < W.heap.size
theorem FnBox.new (w : World) (f : FnD) (t : TypeId) : FnBox (w.alloc (.cells #[.int .i64 f.id, .int .i64 f.parent, .string f.name] t)) w.heap.size f :=
  ⟨by simp, by simp, by simp, by simp⟩
theorem FnBox.below {W W' : World} {p : Nat} {f : FnD} (h : FnBox W p f) (hb : Below W.heap.size W W') : FnBox W' p f :=
  ⟨(hb.cell (p := ⟨_, _, _⟩) h.lt).trans h.c0, (hb.cell (p := ⟨_, _, _⟩) h.lt).trans h.c1, (hb.cell (p := ⟨_, _, _⟩) h.lt).trans h.c2, Nat.lt_of_lt_of_le h.lt hb.size⟩

/-- a function is valid -/
def fnB (f : FnD) : Bool := inB f.id 1 99 && inB f.parent 0 (f.id - 1) && wordB f.name
theorem fnB_cases (f : FnD) :
    (inB f.id 1 99 = false ∧ fnB f = false) ∨ (inB f.id 1 99 = true ∧ inB f.parent 0 (f.id - 1) = false ∧ fnB f = false) ∨
    (inB f.id 1 99 = true ∧ inB f.parent 0 (f.id - 1) = true ∧ fnB f = wordB f.name) := by
  unfold fnB
  cases inB f.id 1 99 <;> cases inB f.parent 0 (f.id - 1) <;> simp
theorem inB_id {x : Int} (h : inB x 1 99 = true) : 1 ≤ x ∧ x ≤ 99 := by simp [inB] at h; exact h

set_option maxHeartbeats 2000000 in
theorem IsFunction_any (f : FnD) (w : World) (hs : f.name.size ≤ 9223372036854775807) :
    Calls Tryd.prog 46 #[.agg #[.int .i64 f.id, .int .i64 f.parent, .string f.name]] w fun e' w' => e' = .returned (.bool (fnB f)) ∧ Below w.heap.size w w' := by
  have hbx := FnBox.new w f 49
  have hB := blw_alloc (Below.refl w.heap.size w) (.cells #[.int .i64 f.id, .int .i64 f.parent, .string f.name] 49)
  rcases fnB_cases f with ⟨h1, hv⟩ | ⟨h1, h2, hv⟩ | ⟨h1, h2, hv⟩
  · have Hv := Lib.hid hv
    clear hv
    go_enter Tryd.func46, Tryd.ntmps46
    go_wp2_with (go_at_call 54; refine (isId5_any _ _).mono ?_; simp only [*]; rintro e w1 ⟨rfl, rfl⟩)
    go_ret
    exact ⟨ret_bool Hv.out.symm, hB⟩
  · have Hv := Lib.hid hv
    have hid := inB_id h1
    clear hv
    go_enter Tryd.func46, Tryd.ntmps46
    go_wp2_with (first | (go_at_call 55; refine (within5_any _ _ _ _).mono ?_; simp only [*]; rintro e w1 ⟨rfl, rfl⟩) | (go_at_call 54; refine (isId5_any _ _).mono ?_; simp only [*]; rintro e w1 ⟨rfl, rfl⟩))
    go_ret
    exact ⟨ret_bool Hv.out.symm, hB⟩
  · have Hv := Lib.hid hv
    have hid := inB_id h1
    clear hv
    go_enter Tryd.func46, Tryd.ntmps46
    go_wp2_with (first | (go_at_call 55; refine (within5_any _ _ _ _).mono ?_; simp only [*]; rintro e w1 ⟨rfl, rfl⟩) | (go_at_call 54; refine (isId5_any _ _).mono ?_; simp only [*]; rintro e w1 ⟨rfl, rfl⟩) | (go_at_call 56; refine (isWord_any _ _ hs).mono ?_; rintro e w2 ⟨rfl, hB2⟩))
    go_ret
    exact ⟨ret_bool Hv.out.symm, hB.trans (hB2.mono hB.size)⟩

set_option maxHeartbeats 2000000 in
theorem l3One_any (f : FnD) (w : World) (hs : f.name.size ≤ 9223372036854775807) :
    Calls Tryd.prog 45 #[.agg #[.int .i64 f.id, .int .i64 f.parent, .string f.name]] w fun e' w' => e' = .returned (.bool (fnB f)) ∧ Below w.heap.size w w' := by
  have hB := blw_alloc (Below.refl w.heap.size w) (.cells #[.int .i64 f.id, .int .i64 f.parent, .string f.name] 49)
  rcases fnB_cases f with ⟨h1, hv⟩ | ⟨h1, h2, hv⟩ | ⟨h1, h2, hv⟩
  · have Hv := Lib.hid hv
    clear hv
    go_enter Tryd.func45, Tryd.ntmps45
    go_wp2_with (go_at_call 52; refine (l1In5_any _ _ _ _).mono ?_; simp only [*]; rintro e w1 ⟨rfl, rfl⟩)
    go_ret
    exact ⟨ret_bool Hv.out.symm, hB⟩
  · have Hv := Lib.hid hv
    have hid := inB_id h1
    clear hv
    go_enter Tryd.func45, Tryd.ntmps45
    go_wp2_with (go_at_call 52; refine (l1In5_any _ _ _ _).mono ?_; simp only [*]; rintro e w1 ⟨rfl, rfl⟩)
    go_ret
    exact ⟨ret_bool Hv.out.symm, hB⟩
  · have Hv := Lib.hid hv
    have hid := inB_id h1
    clear hv
    go_enter Tryd.func45, Tryd.ntmps45
    go_wp2_with (first | (go_at_call 52; refine (l1In5_any _ _ _ _).mono ?_; simp only [*]; rintro e w1 ⟨rfl, rfl⟩) | (go_at_call 53; refine (l2Word_any _ _ hs).mono ?_; rintro e w2 ⟨rfl, rfl⟩))
    go_ret
    exact ⟨ret_bool Hv.out.symm, hB⟩


end Go.Proofs.YtnjgnehiclkkoaaDoor
