/- Contracts of the functions of l5_files.go that speak of one file. -/
import Derived.Test.YtlhihdcdbclcbaaDoorWi
import Derived.Test.YtlhihdcdbclcbaaDoorWw
import Derived.Test.YtlhihdcdbclcbaaDoorHFile
namespace Go.Proofs.YtlhihdcdbclcbaaDoor
set_option linter.unusedVariables false
set_option linter.unusedSimpArgs false
open Go.RowKit
attribute [local go_sem] Aft.cell

/-- A file's block: its seven cells. -/
structure FileBox (W : World) (p : Nat) (f : FileD) : Prop where
  c0 : W.cell? ⟨p, 0, none⟩ = some (.int .i64 f.id)
  c1 : W.cell? ⟨p, 1, none⟩ = some (.int .i64 f.series)
  c2 : W.cell? ⟨p, 2, none⟩ = some (.string f.title)
  c3 : W.cell? ⟨p, 3, none⟩ = some (.int .i64 f.opened)
  c4 : W.cell? ⟨p, 4, none⟩ = some (.int .i64 f.closed)
  c5 : W.cell? ⟨p, 5, none⟩ = some (.int .i64 f.state)
  c6 : W.cell? ⟨p, 6, none⟩ = some (.int .i64 f.pages)
  lt : p < W.heap.size
theorem FileBox.new (w : World) (f : FileD) (t : TypeId) : FileBox (w.alloc (.cells #[.int .i64 f.id, .int .i64 f.series, .string f.title, .int .i64 f.opened, .int .i64 f.closed, .int .i64 f.state, .int .i64 f.pages] t)) w.heap.size f :=
  ⟨by simp, by simp, by simp, by simp, by simp, by simp, by simp, by simp⟩
theorem FileBox.below {W W' : World} {p : Nat} {f : FileD} (h : FileBox W p f) (hb : Below W.heap.size W W') : FileBox W' p f :=
  ⟨(hb.cell (p := ⟨_, _, _⟩) h.lt).trans h.c0, (hb.cell (p := ⟨_, _, _⟩) h.lt).trans h.c1, (hb.cell (p := ⟨_, _, _⟩) h.lt).trans h.c2, (hb.cell (p := ⟨_, _, _⟩) h.lt).trans h.c3, (hb.cell (p := ⟨_, _, _⟩) h.lt).trans h.c4, (hb.cell (p := ⟨_, _, _⟩) h.lt).trans h.c5, (hb.cell (p := ⟨_, _, _⟩) h.lt).trans h.c6, Nat.lt_of_lt_of_le h.lt hb.size⟩

/-- a file is valid -/
def fileB (f : FileD) : Bool :=
  inB f.id 1 999 && inB f.series 1 99 && wordB f.title && inB f.opened 0 20000 && inB f.pages 0 5000 &&
    ((f.state == 0 && f.closed == 0) || (inB f.state 1 2 && (inB f.closed 0 20000 && decide (f.opened ≤ f.closed))))

set_option maxHeartbeats 400000 in
theorem areDays_any (a b : Int) (w : World) :
    Calls Tryd.prog 39 #[.int .i64 a, .int .i64 b] w fun e w' => e = .returned (.bool (inB a 0 20000 && inB b 0 20000 && decide (a ≤ b))) ∧ w = w' := by
  cases h1 : inB a 0 20000 <;> cases h2 : inB b 0 20000
  all_goals
    go_enter Tryd.func39, Tryd.ntmps39
    go_wp2_with (go_at_call 50; refine (isDay5_any _ _).mono ?_; simp only [h1, h2]; rintro e w' ⟨rfl, rfl⟩)
    go_ret
    exact ⟨rfl, rfl⟩

theorem fileB_cases (f : FileD) :
    (inB f.id 1 999 = false ∧ fileB f = false) ∨ (inB f.id 1 999 = true ∧ inB f.series 1 99 = false ∧ fileB f = false) ∨
    (inB f.id 1 999 = true ∧ inB f.series 1 99 = true ∧ wordB f.title = false ∧ fileB f = false) ∨
    (inB f.id 1 999 = true ∧ inB f.series 1 99 = true ∧ wordB f.title = true ∧ inB f.opened 0 20000 = false ∧ fileB f = false) ∨
    (inB f.id 1 999 = true ∧ inB f.series 1 99 = true ∧ wordB f.title = true ∧ inB f.opened 0 20000 = true ∧ inB f.pages 0 5000 = false ∧ fileB f = false) ∨
    (inB f.id 1 999 = true ∧ inB f.series 1 99 = true ∧ wordB f.title = true ∧ inB f.opened 0 20000 = true ∧ inB f.pages 0 5000 = true ∧ (f.state == 0) = true ∧ fileB f = (f.closed == 0)) ∨
    (inB f.id 1 999 = true ∧ inB f.series 1 99 = true ∧ wordB f.title = true ∧ inB f.opened 0 20000 = true ∧ inB f.pages 0 5000 = true ∧ (f.state == 0) = false ∧ inB f.state 1 2 = false ∧ fileB f = false) ∨
    (inB f.id 1 999 = true ∧ inB f.series 1 99 = true ∧ wordB f.title = true ∧ inB f.opened 0 20000 = true ∧ inB f.pages 0 5000 = true ∧ (f.state == 0) = false ∧ inB f.state 1 2 = true ∧ inB f.closed 0 20000 = false ∧ fileB f = false) ∨
    (inB f.id 1 999 = true ∧ inB f.series 1 99 = true ∧ wordB f.title = true ∧ inB f.opened 0 20000 = true ∧ inB f.pages 0 5000 = true ∧ (f.state == 0) = false ∧ inB f.state 1 2 = true ∧ inB f.closed 0 20000 = true ∧ fileB f = decide (f.opened ≤ f.closed)) := by
  have e : fileB f = (inB f.id 1 999 && inB f.series 1 99 && wordB f.title && inB f.opened 0 20000 && inB f.pages 0 5000 &&
    ((f.state == 0 && f.closed == 0) || (inB f.state 1 2 && (inB f.closed 0 20000 && decide (f.opened ≤ f.closed))))) := rfl
  rw [e]
  by_cases hs : f.state = 0
  · rw [hs]
    cases inB f.id 1 999 <;> cases inB f.series 1 99 <;> cases wordB f.title <;> cases inB f.opened 0 20000 <;> cases inB f.pages 0 5000 <;> simp [inB]
  · have hs' : (f.state == 0) = false := by simpa using hs
    rw [hs']
    cases inB f.id 1 999 <;> cases inB f.series 1 99 <;> cases wordB f.title <;> cases inB f.opened 0 20000 <;> cases inB f.pages 0 5000 <;> cases inB f.state 1 2 <;> cases inB f.closed 0 20000 <;> simp

set_option maxHeartbeats 4000000 in
theorem IsFile_any (f : FileD) (w : World) (hs : f.title.size ≤ 9223372036854775807) :
    Calls Tryd.prog 43 #[.agg #[.int .i64 f.id, .int .i64 f.series, .string f.title, .int .i64 f.opened, .int .i64 f.closed, .int .i64 f.state, .int .i64 f.pages]] w fun e' w' => e' = .returned (.bool (fileB f)) ∧ Below w.heap.size w w' := by
  have hbx := FileBox.new w f 47
  have hB := blw_alloc (Below.refl w.heap.size w) (.cells #[.int .i64 f.id, .int .i64 f.series, .string f.title, .int .i64 f.opened, .int .i64 f.closed, .int .i64 f.state, .int .i64 f.pages] 47)
  rcases fileB_cases f with ⟨h1, hv⟩ | ⟨h1, h2, hv⟩ | ⟨h1, h2, h3, hv⟩ | ⟨h1, h2, h3, h4, hv⟩ | ⟨h1, h2, h3, h4, h5, hv⟩ | ⟨h1, h2, h3, h4, h5, h6, hv⟩ | ⟨h1, h2, h3, h4, h5, h6, h7, hv⟩ | ⟨h1, h2, h3, h4, h5, h6, h7, h9, hv⟩ | ⟨h1, h2, h3, h4, h5, h6, h7, h9, hv⟩
  all_goals
    have Hv := Lib.hid hv
    clear hv
    go_enter Tryd.func43, Tryd.ntmps43
    go_wp2_with fail
    generalize (w.alloc (.cells #[.int .i64 f.id, .int .i64 f.series, .string f.title, .int .i64 f.opened, .int .i64 f.closed, .int .i64 f.state, .int .i64 f.pages] 47)) = W0 at *
    obtain ⟨c0, c1, c2, c3, c4, c5, c6, cl⟩ := id hbx
    go_wp2_with (first | (go_at_call 36; refine (within5_any _ _ _ _).mono ?_; simp only [*]; rintro e w1 ⟨rfl, rfl⟩) | (go_at_call 53; refine (isId5_any _ _).mono ?_; simp only [*]; rintro e w1 ⟨rfl, rfl⟩) | (go_at_call 50; refine (isDay5_any _ _).mono ?_; simp only [*]; rintro e w1 ⟨rfl, rfl⟩) | (go_at_call 39; refine (areDays_any _ _ _).mono ?_; simp only [*]; rintro e w1 ⟨rfl, rfl⟩) | (go_at_call 54; refine (isWord_any _ _ hs).mono ?_; simp only [*]; rintro e w2 ⟨rfl, hB2⟩; obtain ⟨d0, d1, d2, d3, d4, d5, d6, dl⟩ := hbx.below hB2))
    go_ret
    refine ⟨ret_bool (Eq.trans ?_ Hv.out.symm), ?_⟩
    · first | rfl | simp
    · first | exact hB | exact hB.trans (hB2.mono hB.size)

set_option maxHeartbeats 4000000 in
theorem l5One_any (f : FileD) (w : World) (hs : f.title.size ≤ 9223372036854775807) :
    Calls Tryd.prog 42 #[.agg #[.int .i64 f.id, .int .i64 f.series, .string f.title, .int .i64 f.opened, .int .i64 f.closed, .int .i64 f.state, .int .i64 f.pages]] w fun e' w' => e' = .returned (.bool (fileB f)) ∧ Below w.heap.size w w' := by
  have h02 : inB f.state 0 2 = ((f.state == 0) || inB f.state 1 2) := by
    unfold inB
    by_cases h : f.state = 0
    · simp [h]
    · by_cases h' : 0 ≤ f.state
      · have h1 : (1 : Int) ≤ f.state := by omega
        simp [h, h', h1]
      · have h1 : ¬ (1 : Int) ≤ f.state := by omega
        simp [h, h', h1]
  cases h8 : inB f.state 0 2 <;> rcases fileB_cases f with ⟨h1, hv⟩ | ⟨h1, h2, hv⟩ | ⟨h1, h2, h3, hv⟩ | ⟨h1, h2, h3, h4, hv⟩ | ⟨h1, h2, h3, h4, h5, hv⟩ | ⟨h1, h2, h3, h4, h5, h6, hv⟩ | ⟨h1, h2, h3, h4, h5, h6, h7, hv⟩ | ⟨h1, h2, h3, h4, h5, h6, h7, h9, hv⟩ | ⟨h1, h2, h3, h4, h5, h6, h7, h9, hv⟩
  all_goals try (exfalso; rw [h02, h6] at h8; simp at h8; done)
  all_goals try (exfalso; rw [h02, h6, h7] at h8; simp at h8; done)
  all_goals
    have Hv := Lib.hid hv
    clear hv h02
    go_enter Tryd.func42, Tryd.ntmps42
    go_wp2_with (first | (go_at_call 34; refine (l1In5_any _ _ _ _).mono ?_; simp only [*]; rintro e w1 ⟨rfl, rfl⟩) | (go_at_call 38; refine (l2Day5_any _ _).mono ?_; try simp only [*]; rintro e w1 ⟨rfl, rfl⟩) | (go_at_call 52; refine (l2Word_any _ _ hs).mono ?_; simp only [*]; rintro e w2 ⟨rfl, rfl⟩))
    all_goals
      go_ret
      refine ⟨ret_bool (Eq.trans ?_ Hv.out.symm), blw_alloc (Below.refl _ _) _⟩
      first | rfl | simp [*]



end Go.Proofs.YtlhihdcdbclcbaaDoor
