/- Contracts of the functions that pick the rules for a series. -/
import Derived.Test.YtmcpkpaanamegaaW4b
namespace Go.Proofs.Ytmcpkpaanamegaa
set_option linter.unusedVariables false
set_option linter.unusedSimpArgs false
open Go.RowKit
attribute [local go_sem] Aft.cell

set_option maxHeartbeats 1000000 in
theorem rulesFor_any (A : Option Addr) (c : Nat) (l : List RuleD) (s : Int) (w : World) (hl : Ls w w.heap.size encRule 4 A l) (hm : l.length ≤ 1048576) :
    Calls Try.prog 41 #[.slice A l.length c, .int .i64 s] w (RetS w 45 encRule 4 (forS l s)) := by
  have hlen : (l.length : Int) ≤ 1048576 := by omega
  go_enter Try.func41, Try.ntmps41
  go_wp2_with fail
  go_loopw [5, 10] (fun v i wr => ∃ (k : Nat) (A' : Option Addr) (c' : Nat), k ≤ l.length ∧ i = .int .i64 k ∧ v = .slice A' (forK l s k).length c' ∧ Vec wr w.heap.size 45 encRule 4 (.slice A' (forK l s k).length c') (forK l s k) ∧ Below w.heap.size w wr) (fun _ i _ => l.length - (intOf i).toNat)
  case atStart => exact ⟨0, none, 0, Nat.zero_le _, rfl, rfl, Vec.nil, Below.refl _ _⟩
  case round =>
    obtain ⟨k, A', c', hk, rfl, rfl, hv, hb⟩ := hrel
    by_cases hlt : k < l.length
    · obtain ⟨b, off, rfl, hbb, hc0, hc1, hc2, hc3⟩ := (hl.below hb).at_Rule hlt
      have hsz := hb.size
      have hle := forK_le l s k
      cases hs : l[k].s == s
      · have he := Lib.hid (forK_no hlt hs)
        go_wp2_with fail
        go_roundw
        case rel => exact ⟨k + 1, A', c', by omega, by go_num, by rw [he.out], by rw [he.out]; exact hv.alloc _, blw_alloc hb _⟩
        case measure => simp [intOf]; omega
      · have he := Lib.hid (forK_yes hlt hs)
        have hF1 : (forK l s k).length + [l[k]].length ≤ maxLen := by unfold maxLen; simp; omega
        have hF2 : ((forK l s k).length + [l[k]].length) * 32 ≤ 140737488355328 := by simp; omega
        go_wp2_with (at_builtin; refine wpList_app rfl (.tmp 18) (.tmp 20) 25 rfl 45 (.agg #[.int .i64 0, .int .i64 0, .int .i64 0, .int .i64 0]) 4 32 Try.underlying25 (by kernel_rfl) rfl (by omega) encRule_len one_rule A' c' (forK l s k) rfl ((hv.alloc _).alloc _) _ 1 (_ + 1) [l[k]] rfl (by exact Ls.one_at (by simp) rfl) hF1 hF2 (by simp; omega) ?_; intro A2 c2 w1 hv1 hw1)
        have hb1 : Below w.heap.size w w1 := (blw_alloc (blw_alloc hb _) _).trans (hw1.below (by simp; omega) (fun x hx => (hv.block hx).1))
        go_roundw
        case rel => exact ⟨k + 1, A2, c2, by omega, by go_num, by rw [he.out]; simp, by rw [he.out]; exact hv1, hb1⟩
        case measure => simp [intOf]; omega
    · have hkk : k = l.length := by omega
      subst hkk
      rw [forK_end] at hv
      have he := Lib.hid (forK_end l s)
      go_wp2_with fail
      go_ret
      exact ⟨A', c', by rw [← he.out]; rfl, hv, hb⟩

set_option maxHeartbeats 1000000 in
theorem l4For_any (A : Option Addr) (c : Nat) (l : List RuleD) (s : Int) (w : World) (hl : Ls w w.heap.size encRule 4 A l) (hm : l.length ≤ 1048576) :
    Calls Try.prog 37 #[.slice A l.length c, .int .i64 s] w (RetS w 45 encRule 4 (forS l s)) := by
  have hlen : (l.length : Int) ≤ 1048576 := by omega
  go_enter Try.func37, Try.ntmps37
  go_wp2_with fail
  have hmk : Vec (w.alloc (.cells #[] 45)) w.heap.size 45 encRule 4 (.slice (some ⟨w.heap.size, 0, none⟩) 0 0) [] := Vec.empty _ _ _ (Nat.le_refl _)
  have hbel := blw_alloc (Below.refl w.heap.size w) (.cells #[] 45)
  go_loopw [5, 6] (fun v i wr => ∃ (k : Nat) (A' : Option Addr) (c' : Nat), k ≤ l.length ∧ i = .int .i64 k ∧ v = .slice A' (forK l s k).length c' ∧ Vec wr w.heap.size 45 encRule 4 (.slice A' (forK l s k).length c') (forK l s k) ∧ Below w.heap.size w wr) (fun _ i _ => l.length - (intOf i).toNat)
  case atStart => exact ⟨0, _, 0, Nat.zero_le _, rfl, rfl, hmk, hbel⟩
  case round =>
    clear hmk hbel
    obtain ⟨k, A', c', hk, rfl, rfl, hv, hb⟩ := hrel
    by_cases hlt : k < l.length
    · obtain ⟨b, off, rfl, hbb, hc0, hc1, hc2, hc3⟩ := (hl.below hb).at_Rule hlt
      have hsz := hb.size
      have hle := forK_le l s k
      cases hs : l[k].s == s
      · have he := Lib.hid (forK_no hlt hs)
        go_wp2_with fail
        go_roundw
        case rel => exact ⟨k + 1, A', c', by omega, by go_num, by rw [he.out], by rw [he.out]; exact hv, hb⟩
        case measure => simp [intOf]; omega
      · have he := Lib.hid (forK_yes hlt hs)
        have hF1 : (forK l s k).length + [l[k]].length ≤ maxLen := by unfold maxLen; simp; omega
        have hF2 : ((forK l s k).length + [l[k]].length) * 32 ≤ 140737488355328 := by simp; omega
        go_wp2_with (at_builtin; refine wpList_app rfl (.tmp 21) (.tmp 26) 25 rfl 45 (.agg #[.int .i64 0, .int .i64 0, .int .i64 0, .int .i64 0]) 4 32 Try.underlying25 (by kernel_rfl) rfl (by omega) encRule_len one_rule A' c' (forK l s k) rfl (hv.alloc _) _ 1 (_ + 1) [l[k]] rfl (by exact Ls.one_at (by simp) rfl) hF1 hF2 (by simp; omega) ?_; intro A2 c2 w1 hv1 hw1)
        have hb1 : Below w.heap.size w w1 := (blw_alloc hb _).trans (hw1.below (by simp; omega) (fun x hx => (hv.block hx).1))
        go_roundw
        case rel => exact ⟨k + 1, A2, c2, by omega, by go_num, by rw [he.out]; simp, by rw [he.out]; exact hv1, hb1⟩
        case measure => simp [intOf]; omega
    · have hkk : k = l.length := by omega
      subst hkk
      rw [forK_end] at hv
      have he := Lib.hid (forK_end l s)
      go_wp2_with fail
      go_ret
      exact ⟨A', c', by rw [← he.out]; rfl, hv, hb⟩

def isIdB (s : Int) : Bool := decide (1 ≤ s) && decide (s ≤ 99)
/-- what RulesFor hands back -/
def rulesForL (l : List RuleD) (s : Int) : List RuleD := if (schedB l && isIdB s) = true then forS l s else []
theorem rulesForL_le (l : List RuleD) (s : Int) : (rulesForL l s).length ≤ l.length := by
  unfold rulesForL forS
  split
  · exact List.length_filter_le _ _
  · simp

set_option maxHeartbeats 1000000 in
theorem c_impl_RulesFor (A : Option Addr) (c : Nat) (l : List RuleD) (s : Int) (w : World) (hl : Ls w w.heap.size encRule 4 A l) (hm : l.length ≤ 1048576) :
    Calls Try.prog 20 #[.slice A l.length c, .int .i64 s] w (RetSB w 45 encRule 4 (rulesForL l s) (schedB l && isIdB s)) := by
  have hm' : l.length ≤ 9223372036854775807 := by omega
  cases h1 : schedB l
  · go_enter Try.func20, Try.ntmps20
    go_wp2_with (go_at_call 13; refine (IsSchedule_any _ _ _ _ hl hm').mono ?_; rintro e w1 ⟨rfl, hb1⟩)
    go_ret2
    exact ⟨none, 0, by simp [rulesForL, h1], by simp [rulesForL, h1]; exact Vec.nil, hb1⟩
  · cases h2 : isIdB s
    · have h3 : (decide (1 ≤ s) && decide (s ≤ 99)) = false := h2
      go_enter Try.func20, Try.ntmps20
      go_wp2_with (first | (go_at_call 13; refine (IsSchedule_any _ _ _ _ hl hm').mono ?_; rw [h1]; rintro e w1 ⟨rfl, hb1⟩) | (go_at_call 40; refine (isId4_any _ _).mono ?_; rw [h3]; rintro e w2 ⟨rfl, rfl⟩))
      go_ret2
      exact ⟨none, 0, by simp [rulesForL, h1, h2], by simp [rulesForL, h1, h2]; exact Vec.nil, hb1⟩
    · have h3 : (decide (1 ≤ s) && decide (s ≤ 99)) = true := h2
      have e0 : rulesForL l s = forS l s := by simp [rulesForL, h1, h2]
      go_enter Try.func20, Try.ntmps20
      go_wp2_with fail
      refine (IsSchedule_any _ _ _ _ hl hm').mono ?_
      rw [h1]
      rintro e w1 ⟨rfl, hb1⟩
      go_wp2_with fail
      refine (isId4_any _ _).mono ?_
      rw [h3]
      rintro e w2 ⟨rfl, rfl⟩
      go_wp2_with fail
      refine (rulesFor_any _ _ _ _ _ ((hl.below hb1).more hb1.size) hm).mono ?_
      rintro e w3 ⟨A', c', rfl, hv3, hb3⟩
      have He := Lib.hid e0
      clear e0
      go_wp2_with fail
      go_ret2
      exact ⟨A', c', by rw [He.out]; rfl, by rw [He.out]; exact hv3.mono hb1.size, blw hb1 hb3⟩

set_option maxHeartbeats 1000000 in
theorem c_spec_RulesFor (A : Option Addr) (c : Nat) (l : List RuleD) (s : Int) (w : World) (hl : Ls w w.heap.size encRule 4 A l) (hm : l.length ≤ 1048576) :
    Calls Try.prog 19 #[.slice A l.length c, .int .i64 s] w (RetSB w 45 encRule 4 (rulesForL l s) (schedB l && isIdB s)) := by
  have hm' : l.length ≤ 9223372036854775807 := by omega
  cases h1 : schedB l
  · go_enter Try.func19, Try.ntmps19
    go_wp2_with (go_at_call 33; refine (l4Good_any _ _ _ _ hl hm').mono ?_; rw [h1]; rintro e w1 ⟨rfl, hb1⟩)
    go_ret2
    exact ⟨_, 0, by simp [rulesForL, h1]; rfl, by simp [rulesForL, h1]; exact Vec.empty _ _ _ hb1.size, blw_alloc hb1 _⟩
  · cases h2 : isIdB s
    · have h3 : (decide (1 ≤ s) && decide (s ≤ 99)) = false := h2
      go_enter Try.func19, Try.ntmps19
      go_wp2_with (first | (go_at_call 33; refine (l4Good_any _ _ _ _ hl hm').mono ?_; rw [h1]; rintro e w1 ⟨rfl, hb1⟩) | (go_at_call 39; refine (l1In_any _ _ _ _).mono ?_; rw [h3]; rintro e w2 ⟨rfl, rfl⟩))
      go_ret2
      exact ⟨_, 0, by simp [rulesForL, h1, h2]; rfl, by simp [rulesForL, h1, h2]; exact Vec.empty _ _ _ hb1.size, blw_alloc hb1 _⟩
    · have h3 : (decide (1 ≤ s) && decide (s ≤ 99)) = true := h2
      have e0 : rulesForL l s = forS l s := by simp [rulesForL, h1, h2]
      go_enter Try.func19, Try.ntmps19
      go_wp2_with fail
      refine (l4Good_any _ _ _ _ hl hm').mono ?_
      rw [h1]
      rintro e w1 ⟨rfl, hb1⟩
      go_wp2_with fail
      refine (l1In_any _ _ _ _).mono ?_
      rw [h3]
      rintro e w2 ⟨rfl, rfl⟩
      go_wp2_with fail
      refine (l4For_any _ _ _ _ _ ((hl.below hb1).more hb1.size) hm).mono ?_
      rintro e w3 ⟨A', c', rfl, hv3, hb3⟩
      have He := Lib.hid e0
      clear e0
      go_wp2_with fail
      go_ret2
      exact ⟨A', c', by rw [He.out]; rfl, by rw [He.out]; exact hv3.mono hb1.size, blw hb1 hb3⟩

end Go.Proofs.Ytmcpkpaanamegaa
