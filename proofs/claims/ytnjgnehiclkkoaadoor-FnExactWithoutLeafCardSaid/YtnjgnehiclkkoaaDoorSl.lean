/- Contracts of slices.Clone at structs. -/
import Derived.Test.YtnjgnehiclkkoaaDoorV
import Derived.Test.YtnjgnehiclkkoaaDoorRows
import Derived.Lib.SliceRun
namespace Go.Proofs.YtnjgnehiclkkoaaDoor
set_option linter.unusedVariables false
set_option linter.unusedSimpArgs false
open Go.RowKit
attribute [local go_sem] Aft.cell



set_option maxHeartbeats 1000000 in
theorem Clone_Function (A : Option Addr) (c : Nat) (l : List FnD) (w : World) (hl : Ls w w.heap.size encFn 3 A l) (hm : l.length ≤ 1048576) :
    Calls Tryd.prog 33 #[.slice A l.length c] w (RetS w 49 encFn 3 l) := by
  have hlen : (l.length : Int) ≤ 1048576 := by omega
  have q : ∀ (w : World) (a : Option Addr) (n c n' c' : Nat), (binOp .eql 24 (.slice a n c) (.slice none n' c')).run Tryd.prog w = .ok (.bool a.isNone) w := fun w a n c n' c' => Lib.run_eql_slice_nil w _ _ a n c n' c' Tryd.underlying24
  cases A with
  | none =>
    have h0 : l = [] := by
      rcases l with _ | ⟨x, t⟩
      · rfl
      · obtain ⟨b, off, e, _⟩ := hl (by simp)
        cases e
    subst h0
    go_enter Tryd.func33, Tryd.ntmps33
    go_wp2_with fail
    go_ret
    exact ⟨none, 0, rfl, Vec.nil, Below.refl _ _⟩
  | some a =>
    have hF1 : ([] : List FnD).length + l.length ≤ maxLen := by unfold maxLen; simp; omega
    have hF2 : (([] : List FnD).length + l.length) * 32 ≤ 140737488355328 := by simp; omega
    have hmk : Vec (w.alloc (.cells #[] 49)) w.heap.size 49 encFn 3 (.slice (some ⟨w.heap.size, 0, none⟩) ([] : List FnD).length 0) [] := Vec.empty _ _ _ (Nat.le_refl _)
    have hbel := blw_alloc (Below.refl w.heap.size w) (.cells #[] 49)
    go_enter Tryd.func33, Tryd.ntmps33
    go_wp2_with (at_builtin; refine wpList_app rfl (.tmp 5) (.tmp 6) 24 rfl 49 (.agg #[.int .i64 0, .int .i64 0, .string ⟨#[]⟩]) 3 32 Tryd.underlying24 (by kernel_rfl) rfl (by omega) encFn_len one_fn (some ⟨w.heap.size, 0, none⟩) 0 [] rfl hmk (some a) c w.heap.size l rfl (hl.below hbel) hF1 hF2 (by simp) ?_; intro A2 c2 w1 hv1 hw1)
    go_ret
    exact ⟨A2, c2, rfl, hv1, hbel.trans (hw1.below (by simp) (fun x hx => (hmk.block hx).1))⟩


end Go.Proofs.YtnjgnehiclkkoaaDoor
