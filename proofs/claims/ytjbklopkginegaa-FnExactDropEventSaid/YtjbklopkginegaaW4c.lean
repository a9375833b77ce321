/- Contracts of the functions that pick the rules for a series. -/
import Derived.Test.YtjbklopkginegaaW4b
namespace Go.Proofs.Ytjbklopkginegaa
set_option linter.unusedVariables false
set_option linter.unusedSimpArgs false
open Go.RowKit
attribute [local go_sem] Aft.cell

set_option maxHeartbeats 1000000 in
theorem rulesFor_any (A : Option Addr) (c : Nat) (l : List RuleD) (s : Int) (w : World) (hl : Ls w w.heap.size encRule 4 A l) (hm : l.length ≤ 1048576) :
    Calls Try.prog 81 #[.slice A l.length c, .int .i64 s] w (RetS w 62 encRule 4 (forS l s)) := by
  have hlen : (l.length : Int) ≤ 1048576 := by omega
  go_enter Try.func81, Try.ntmps81
  go_wp2_with fail
  go_loopw [5, 10] (fun v i wr => ∃ (k : Nat) (A' : Option Addr) (c' : Nat), k ≤ l.length ∧ i = .int .i64 k ∧ v = .slice A' (forK l s k).length c' ∧ Vec wr w.heap.size 62 encRule 4 (.slice A' (forK l s k).length c') (forK l s k) ∧ Below w.heap.size w wr) (fun _ i _ => l.length - (intOf i).toNat)
  case atStart => exact ⟨0, none, 0, Nat.zero_le _, rfl, rfl, Vec.nil, Below.refl _ _⟩
  case round =>
    obtain ⟨k, A', c', hk, rfl, rfl, hv, hb⟩ := hrel
    by_cases hlt : k < l.length
    · obtain ⟨b, off, rfl, hbb, hc0, hc1, hc2, hc3⟩ := (hl.below hb).at_Rule hlt
      have hsz := hb.size
      have hle := forK_le l s k
      cases hs : l[k].s == s
      · have he := Lib.hid (forK_no hlt hs)
        go_wp2_with fail
        go_roundw
        case rel => exact ⟨k + 1, A', c', by omega, by go_num, by rw [he.out], by rw [he.out]; exact hv.alloc _, blw_alloc hb _⟩
        case measure => simp [intOf]; omega
      · have he := Lib.hid (forK_yes hlt hs)
        have hF1 : (forK l s k).length + [l[k]].length ≤ maxLen := by unfold maxLen; simp; omega
        have hF2 : ((forK l s k).length + [l[k]].length) * 32 ≤ 140737488355328 := by simp; omega
        go_wp2_with (at_builtin; refine wpList_app rfl (.tmp 18) (.tmp 20) 65 rfl 62 (.agg #[.int .i64 0, .int .i64 0, .int .i64 0, .int .i64 0]) 4 32 Try.underlying65 (by kernel_rfl) rfl (by omega) encRule_len one_rule A' c' (forK l s k) rfl ((hv.alloc _).alloc _) _ 1 (_ + 1) [l[k]] rfl (by exact Ls.one_at (by simp) rfl) hF1 hF2 (by simp; omega) ?_; intro A2 c2 w1 hv1 hw1)
        have hb1 : Below w.heap.size w w1 := (blw_alloc (blw_alloc hb _) _).trans (hw1.below (by simp; omega) (fun x hx => (hv.block hx).1))
        go_roundw
        case rel => exact ⟨k + 1, A2, c2, by omega, by go_num, by rw [he.out]; simp, by rw [he.out]; exact hv1, hb1⟩
        case measure => simp [intOf]; omega
    · have hkk : k = l.length := by omega
      subst hkk
      rw [forK_end] at hv
      have he := Lib.hid (forK_end l s)
      go_wp2_with fail
      go_ret
      exact ⟨A', c', by rw [← he.out]; rfl, hv, hb⟩

set_option maxHeartbeats 1000000 in
theorem l4For_any (A : Option Addr) (c : Nat) (l : List RuleD) (s : Int) (w : World) (hl : Ls w w.heap.size encRule 4 A l) (hm : l.length ≤ 1048576) :
    Calls Try.prog 79 #[.slice A l.length c, .int .i64 s] w (RetS w 62 encRule 4 (forS l s)) := by
  have hlen : (l.length : Int) ≤ 1048576 := by omega
  go_enter Try.func79, Try.ntmps79
  go_wp2_with fail
  have hmk : Vec (w.alloc (.cells #[] 62)) w.heap.size 62 encRule 4 (.slice (some ⟨w.heap.size, 0, none⟩) 0 0) [] := Vec.empty _ _ _ (Nat.le_refl _)
  have hbel := blw_alloc (Below.refl w.heap.size w) (.cells #[] 62)
  go_loopw [5, 6] (fun v i wr => ∃ (k : Nat) (A' : Option Addr) (c' : Nat), k ≤ l.length ∧ i = .int .i64 k ∧ v = .slice A' (forK l s k).length c' ∧ Vec wr w.heap.size 62 encRule 4 (.slice A' (forK l s k).length c') (forK l s k) ∧ Below w.heap.size w wr) (fun _ i _ => l.length - (intOf i).toNat)
  case atStart => exact ⟨0, _, 0, Nat.zero_le _, rfl, rfl, hmk, hbel⟩
  case round =>
    clear hmk hbel
    obtain ⟨k, A', c', hk, rfl, rfl, hv, hb⟩ := hrel
    by_cases hlt : k < l.length
    · obtain ⟨b, off, rfl, hbb, hc0, hc1, hc2, hc3⟩ := (hl.below hb).at_Rule hlt
      have hsz := hb.size
      have hle := forK_le l s k
      cases hs : l[k].s == s
      · have he := Lib.hid (forK_no hlt hs)
        go_wp2_with fail
        go_roundw
        case rel => exact ⟨k + 1, A', c', by omega, by go_num, by rw [he.out], by rw [he.out]; exact hv, hb⟩
        case measure => simp [intOf]; omega
      · have he := Lib.hid (forK_yes hlt hs)
        have hF1 : (forK l s k).length + [l[k]].length ≤ maxLen := by unfold maxLen; simp; omega
        have hF2 : ((forK l s k).length + [l[k]].length) * 32 ≤ 140737488355328 := by simp; omega
        go_wp2_with (at_builtin; refine wpList_app rfl (.tmp 21) (.tmp 26) 65 rfl 62 (.agg #[.int .i64 0, .int .i64 0, .int .i64 0, .int .i64 0]) 4 32 Try.underlying65 (by kernel_rfl) rfl (by omega) encRule_len one_rule A' c' (forK l s k) rfl (hv.alloc _) _ 1 (_ + 1) [l[k]] rfl (by exact Ls.one_at (by simp) rfl) hF1 hF2 (by simp; omega) ?_; intro A2 c2 w1 hv1 hw1)
        have hb1 : Below w.heap.size w w1 := (blw_alloc hb _).trans (hw1.below (by simp; omega) (fun x hx => (hv.block hx).1))
        go_roundw
        case rel => exact ⟨k + 1, A2, c2, by omega, by go_num, by rw [he.out]; simp, by rw [he.out]; exact hv1, hb1⟩
        case measure => simp [intOf]; omega
    · have hkk : k = l.length := by omega
      subst hkk
      rw [forK_end] at hv
      have he := Lib.hid (forK_end l s)
      go_wp2_with fail
      go_ret
      exact ⟨A', c', by rw [← he.out]; rfl, hv, hb⟩

def isIdB (s : Int) : Bool := decide (1 ≤ s) && decide (s ≤ 99)
/-- what RulesFor hands back -/
def rulesForL (l : List RuleD) (s : Int) : List RuleD := if (schedB l && isIdB s) = true then forS l s else []
theorem rulesForL_le (l : List RuleD) (s : Int) : (rulesForL l s).length ≤ l.length := by
  unfold rulesForL forS
  split
  · exact List.length_filter_le _ _
  · simp



end Go.Proofs.Ytjbklopkginegaa
