/- Contracts of DropRule, as the law takes them. -/
import Derived.Test.YtnohonedfeacdaaD4e
import Derived.Test.YtnohonedfeacdaaSe
namespace Go.Proofs.Ytnohonedfeacdaa
set_option linter.unusedVariables false
set_option linter.unusedSimpArgs false
open Go.RowKit
attribute [local go_sem] Aft.cell

set_option maxHeartbeats 1000000 in
theorem l4Without_any (A : Option Addr) (c : Nat) (l : List RuleD) (s e : Int) (w : World) (hl : Ls w w.heap.size encRule 4 A l) (hm : l.length ≤ 1048576) :
    Calls Try.prog 35 #[.slice A l.length c, .int .i64 s, .int .i64 e] w (RetS w 47 encRule 4 (withoutL l s e)) := by
  have hlen : (l.length : Int) ≤ 1048576 := by omega
  go_enter Try.func35, Try.ntmps35
  go_wp2_with fail
  have hmk : Vec (w.alloc (.cells #[] 47)) w.heap.size 47 encRule 4 (.slice (some ⟨w.heap.size, 0, none⟩) 0 0) [] := Vec.empty _ _ _ (Nat.le_refl _)
  have hbel := blw_alloc (Below.refl w.heap.size w) (.cells #[] 47)
  go_loopw [7, 8] (fun v i wr => ∃ (k : Nat) (A' : Option Addr) (c' : Nat), k ≤ l.length ∧ i = .int .i64 k ∧ v = .slice A' (withoutK l s e k).length c' ∧ Vec wr w.heap.size 47 encRule 4 (.slice A' (withoutK l s e k).length c') (withoutK l s e k) ∧ Below w.heap.size w wr) (fun _ i _ => l.length - (intOf i).toNat)
  case atStart => exact ⟨0, _, 0, Nat.zero_le _, rfl, rfl, hmk, hbel⟩
  case round =>
    clear hmk hbel
    obtain ⟨k, A', c', hk, rfl, rfl, hv, hb⟩ := hrel
    by_cases hlt : k < l.length
    · obtain ⟨b, off, rfl, hbb, hc0, hc1, hc2, hc3⟩ := (hl.below hb).at_Rule hlt
      have hsz := hb.size
      have hle := withoutK_le l s e k
      have hF1 : (withoutK l s e k).length + [l[k]].length ≤ maxLen := by unfold maxLen; simp; omega
      have hF2 : ((withoutK l s e k).length + [l[k]].length) * 32 ≤ 140737488355328 := by simp; omega
      rcases (show ((l[k].s != s) = true ∧ hitB s e l[k] = false) ∨ ((l[k].s != s) = false ∧ (l[k].e != e) = true ∧ hitB s e l[k] = false) ∨ ((l[k].s != s) = false ∧ (l[k].e != e) = false ∧ hitB s e l[k] = true) by
        unfold hitB
        by_cases h1 : l[k].s = s <;> by_cases h2 : l[k].e = e <;> simp [h1, h2]) with ⟨h1, hh⟩ | ⟨h1, h2, hh⟩ | ⟨h1, h2, hh⟩
      iterate 2
        · have he := Lib.hid (withoutK_yes hlt hh)
          clear hh
          go_wp2_with (at_builtin; refine wpList_app rfl (.tmp 32) (.tmp 37) 43 rfl 47 (.agg #[.int .i64 0, .int .i64 0, .int .i64 0, .int .i64 0]) 4 32 Try.underlying43 (by kernel_rfl) rfl (by omega) encRule_len one_rule A' c' (withoutK l s e k) rfl (hv.alloc _) _ 1 (_ + 1) [l[k]] rfl (by exact Ls.one_at (by simp) rfl) hF1 hF2 (by simp; omega) ?_; intro A2 c2 w1 hv1 hw1)
          have hb1 : Below w.heap.size w w1 := (blw_alloc hb _).trans (hw1.below (by simp; omega) (fun x hx => (hv.block hx).1))
          go_roundw
          case rel => exact ⟨k + 1, A2, c2, by omega, by go_num, by rw [he.out]; simp, by rw [he.out]; exact hv1, hb1⟩
          case measure => simp [intOf]; omega
      · have he := Lib.hid (withoutK_no hlt hh)
        clear hh
        go_wp2_with fail
        go_roundw
        case rel => exact ⟨k + 1, A', c', by omega, by go_num, by rw [he.out], by rw [he.out]; exact hv, hb⟩
        case measure => simp [intOf]; omega
    · have hkk : k = l.length := by omega
      subst hkk
      rw [withoutK_end] at hv
      have he := Lib.hid (withoutK_end l s e)
      go_wp2_with fail
      go_ret
      exact ⟨A', c', by rw [← he.out]; rfl, hv, hb⟩



end Go.Proofs.Ytnohonedfeacdaa
