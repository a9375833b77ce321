/- Contracts of slices.Clone at structs. -/
import Derived.Test.YtnohonedfeacdaaV
import Derived.Test.YtnohonedfeacdaaRows
import Derived.Lib.SliceRun
namespace Go.Proofs.Ytnohonedfeacdaa
set_option linter.unusedVariables false
set_option linter.unusedSimpArgs false
open Go.RowKit
attribute [local go_sem] Aft.cell

set_option maxHeartbeats 1000000 in
theorem Clone_Event (A : Option Addr) (c : Nat) (l : List Ev) (w : World) (hl : Ls w w.heap.size encEv 2 A l) (hm : l.length ≤ 1048576) :
    Calls Try.prog 29 #[.slice A l.length c] w (RetS w 34 encEv 2 l) := by
  have hlen : (l.length : Int) ≤ 1048576 := by omega
  have q : ∀ (w : World) (a : Option Addr) (n c n' c' : Nat), (binOp .eql 28 (.slice a n c) (.slice none n' c')).run Try.prog w = .ok (.bool a.isNone) w := fun w a n c n' c' => Lib.run_eql_slice_nil w _ _ a n c n' c' Try.underlying28
  cases A with
  | none =>
    have h0 : l = [] := by
      rcases l with _ | ⟨x, t⟩
      · rfl
      · obtain ⟨b, off, e, _⟩ := hl (by simp)
        cases e
    subst h0
    go_enter Try.func29, Try.ntmps29
    go_wp2_with fail
    go_ret
    exact ⟨none, 0, rfl, Vec.nil, Below.refl _ _⟩
  | some a =>
    have hF1 : ([] : List Ev).length + l.length ≤ maxLen := by unfold maxLen; simp; omega
    have hF2 : (([] : List Ev).length + l.length) * 16 ≤ 140737488355328 := by simp; omega
    have hmk : Vec (w.alloc (.cells #[] 34)) w.heap.size 34 encEv 2 (.slice (some ⟨w.heap.size, 0, none⟩) ([] : List Ev).length 0) [] := Vec.empty _ _ _ (Nat.le_refl _)
    have hbel := blw_alloc (Below.refl w.heap.size w) (.cells #[] 34)
    go_enter Try.func29, Try.ntmps29
    go_wp2_with (at_builtin; refine wpList_app rfl (.tmp 5) (.tmp 6) 28 rfl 34 (.agg #[.int .i64 0, .int .i64 0]) 2 16 Try.underlying28 (by kernel_rfl) rfl (by omega) encEv_len one_ev (some ⟨w.heap.size, 0, none⟩) 0 [] rfl hmk (some a) c w.heap.size l rfl (hl.below hbel) hF1 hF2 (by simp) ?_; intro A2 c2 w1 hv1 hw1)
    go_ret
    exact ⟨A2, c2, rfl, hv1, hbel.trans (hw1.below (by simp) (fun x hx => (hmk.block hx).1))⟩

set_option maxHeartbeats 1000000 in
theorem Clone_Rule (A : Option Addr) (c : Nat) (l : List RuleD) (w : World) (hl : Ls w w.heap.size encRule 4 A l) (hm : l.length ≤ 1048576) :
    Calls Try.prog 39 #[.slice A l.length c] w (RetS w 47 encRule 4 l) := by
  have hlen : (l.length : Int) ≤ 1048576 := by omega
  have q : ∀ (w : World) (a : Option Addr) (n c n' c' : Nat), (binOp .eql 43 (.slice a n c) (.slice none n' c')).run Try.prog w = .ok (.bool a.isNone) w := fun w a n c n' c' => Lib.run_eql_slice_nil w _ _ a n c n' c' Try.underlying43
  cases A with
  | none =>
    have h0 : l = [] := by
      rcases l with _ | ⟨x, t⟩
      · rfl
      · obtain ⟨b, off, e, _⟩ := hl (by simp)
        cases e
    subst h0
    go_enter Try.func39, Try.ntmps39
    go_wp2_with fail
    go_ret
    exact ⟨none, 0, rfl, Vec.nil, Below.refl _ _⟩
  | some a =>
    have hF1 : ([] : List RuleD).length + l.length ≤ maxLen := by unfold maxLen; simp; omega
    have hF2 : (([] : List RuleD).length + l.length) * 32 ≤ 140737488355328 := by simp; omega
    have hmk : Vec (w.alloc (.cells #[] 47)) w.heap.size 47 encRule 4 (.slice (some ⟨w.heap.size, 0, none⟩) ([] : List RuleD).length 0) [] := Vec.empty _ _ _ (Nat.le_refl _)
    have hbel := blw_alloc (Below.refl w.heap.size w) (.cells #[] 47)
    go_enter Try.func39, Try.ntmps39
    go_wp2_with (at_builtin; refine wpList_app rfl (.tmp 5) (.tmp 6) 43 rfl 47 (.agg #[.int .i64 0, .int .i64 0, .int .i64 0, .int .i64 0]) 4 32 Try.underlying43 (by kernel_rfl) rfl (by omega) encRule_len one_rule (some ⟨w.heap.size, 0, none⟩) 0 [] rfl hmk (some a) c w.heap.size l rfl (hl.below hbel) hF1 hF2 (by simp) ?_; intro A2 c2 w1 hv1 hw1)
    go_ret
    exact ⟨A2, c2, rfl, hv1, hbel.trans (hw1.below (by simp) (fun x hx => (hmk.block hx).1))⟩



end Go.Proofs.Ytnohonedfeacdaa
