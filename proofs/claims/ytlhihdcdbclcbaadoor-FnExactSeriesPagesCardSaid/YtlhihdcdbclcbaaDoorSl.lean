/- Contracts of slices.Clone at structs. -/
import Derived.Test.YtlhihdcdbclcbaaDoorV
import Derived.Test.YtlhihdcdbclcbaaDoorRows
import Derived.Lib.SliceRun
namespace Go.Proofs.YtlhihdcdbclcbaaDoor
set_option linter.unusedVariables false
set_option linter.unusedSimpArgs false
open Go.RowKit
attribute [local go_sem] Aft.cell




set_option maxHeartbeats 1000000 in
theorem Clone_File (A : Option Addr) (c : Nat) (l : List FileD) (w : World) (hl : Ls w w.heap.size encFile 7 A l) (hm : l.length ≤ 1048576) :
    Calls Tryd.prog 37 #[.slice A l.length c] w (RetS w 47 encFile 7 l) := by
  have hlen : (l.length : Int) ≤ 1048576 := by omega
  have q : ∀ (w : World) (a : Option Addr) (n c n' c' : Nat), (binOp .eql 27 (.slice a n c) (.slice none n' c')).run Tryd.prog w = .ok (.bool a.isNone) w := fun w a n c n' c' => Lib.run_eql_slice_nil w _ _ a n c n' c' Tryd.underlying27
  cases A with
  | none =>
    have h0 : l = [] := by
      rcases l with _ | ⟨x, t⟩
      · rfl
      · obtain ⟨b, off, e, _⟩ := hl (by simp)
        cases e
    subst h0
    go_enter Tryd.func37, Tryd.ntmps37
    go_wp2_with fail
    go_ret
    exact ⟨none, 0, rfl, Vec.nil, Below.refl _ _⟩
  | some a =>
    have hF1 : ([] : List FileD).length + l.length ≤ maxLen := by unfold maxLen; simp; omega
    have hF2 : (([] : List FileD).length + l.length) * 64 ≤ 140737488355328 := by simp; omega
    have hmk : Vec (w.alloc (.cells #[] 47)) w.heap.size 47 encFile 7 (.slice (some ⟨w.heap.size, 0, none⟩) ([] : List FileD).length 0) [] := Vec.empty _ _ _ (Nat.le_refl _)
    have hbel := blw_alloc (Below.refl w.heap.size w) (.cells #[] 47)
    go_enter Tryd.func37, Tryd.ntmps37
    go_wp2_with (at_builtin; refine wpList_app rfl (.tmp 5) (.tmp 6) 27 rfl 47 (.agg #[.int .i64 0, .int .i64 0, .string ⟨#[]⟩, .int .i64 0, .int .i64 0, .int .i64 0, .int .i64 0]) 7 64 Tryd.underlying27 (by kernel_rfl) rfl (by omega) encFile_len one_file (some ⟨w.heap.size, 0, none⟩) 0 [] rfl hmk (some a) c w.heap.size l rfl (hl.below hbel) hF1 hF2 (by simp) ?_; intro A2 c2 w1 hv1 hw1)
    go_ret
    exact ⟨A2, c2, rfl, hv1, hbel.trans (hw1.below (by simp) (fun x hx => (hmk.block hx).1))⟩

end Go.Proofs.YtlhihdcdbclcbaaDoor
