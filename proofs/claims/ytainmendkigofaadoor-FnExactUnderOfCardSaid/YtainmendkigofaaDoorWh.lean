/- Contracts: a number stands in a list. -/
import Derived.Test.YtainmendkigofaaDoorHInt
namespace Go.Proofs.YtainmendkigofaaDoor
set_option linter.unusedVariables false
set_option linter.unusedSimpArgs false
open Go.RowKit
attribute [local go_sem] Aft.cell

set_option maxHeartbeats 1000000 in
theorem l1Has_any (A : Option Addr) (c : Nat) (l : List Int) (x : Int) (w : World) (hl : Ls w w.heap.size encInt 1 A l) (hm : l.length ≤ 9223372036854775807) :
    Calls Tryd.prog 56 #[.slice A l.length c, .int .i64 x] w fun e w' => e = .returned (.bool (hasB l x)) ∧ w = w' := by
  have hlen : (l.length : Int) ≤ 9223372036854775807 := by omega
  go_enter Tryd.func56, Tryd.ntmps56
  go_wp2_with fail
  go_loop [5] (fun i => ∃ k : Nat, k ≤ l.length ∧ i = .int .i64 k ∧ Hid (∀ j (hj : j < l.length), j < k → l[j] ≠ x)) (fun i => l.length - (intOf i).toNat)
  case atStart => exact ⟨0, Nat.zero_le _, rfl, fun j _ hj => absurd hj (Nat.not_lt_zero _)⟩
  case round =>
    obtain ⟨k, hk, rfl, hall⟩ := hrel
    by_cases hlt : k < l.length
    · obtain ⟨b, off, rfl, hbb, hc0⟩ := hl.at_Int hlt
      cases hx : l[k] == x
      · have Hx := Lib.hid (show l[k] ≠ x by simpa using hx)
        go_wp2_with fail
        go_round
        case rel => exact ⟨k + 1, by omega, by go_num, fun j hj hjk => by rcases Nat.lt_succ_iff_lt_or_eq.1 hjk with h | rfl; exact hall.out j hj h; exact Hx.out⟩
        case measure => simp [intOf]; omega
      · have Hx := Lib.hid (show l[k] = x by simpa using hx)
        go_wp2_with fail
        go_ret
        exact ⟨ret_bool (hasB_yes k hlt Hx.out).symm, rfl⟩
    · have hkk : k = l.length := by omega
      subst hkk
      go_wp2_with fail
      go_ret
      exact ⟨ret_bool (hasB_no hall.out).symm, rfl⟩

set_option maxHeartbeats 1000000 in
theorem Contains_any (A : Option Addr) (c : Nat) (l : List Int) (x : Int) (w : World) (hl : Ls w w.heap.size encInt 1 A l) (hm : l.length ≤ 9223372036854775807) :
    Calls Tryd.prog 57 #[.slice A l.length c, .int .i64 x] w fun e w' => e = .returned (.bool (hasB l x)) ∧ w = w' := by
  have hlen : (l.length : Int) ≤ 9223372036854775807 := by omega
  go_enter Tryd.func57, Tryd.ntmps57
  go_wp2_with fail
  have hidx : Calls Tryd.prog 67 #[.slice A l.length c, .int .i64 x] w fun e w' => (∃ k : Int, e = .returned (.int .i64 k) ∧ decide (0 ≤ k) = hasB l x) ∧ w = w' := by
    go_enter Tryd.func67, Tryd.ntmps67
    go_wp2_with fail
    go_loop [8] (fun i => ∃ k : Nat, k ≤ l.length ∧ i = .int .i64 k ∧ Hid (∀ j (hj : j < l.length), j < k → l[j] ≠ x)) (fun i => l.length - (intOf i).toNat)
    case atStart => exact ⟨0, Nat.zero_le _, rfl, fun j _ hj => absurd hj (Nat.not_lt_zero _)⟩
    case round =>
      obtain ⟨k, hk, rfl, hall⟩ := hrel
      by_cases hlt : k < l.length
      · obtain ⟨b, off, rfl, hbb, hc0⟩ := hl.at_Int hlt
        cases hx : x == l[k]
        · have Hx := Lib.hid (show l[k] ≠ x by simp at hx; exact fun h => hx h.symm)
          go_wp2_with fail
          go_round
          case rel => exact ⟨k + 1, by omega, by go_num, fun j hj hjk => by rcases Nat.lt_succ_iff_lt_or_eq.1 hjk with h | rfl; exact hall.out j hj h; exact Hx.out⟩
          case measure => simp [intOf]; omega
        · have Hx := Lib.hid (show l[k] = x by simp at hx; exact hx.symm)
          go_wp2_with fail
          go_ret
          refine ⟨⟨k, rfl, ?_⟩, rfl⟩
          rw [hasB_yes k hlt Hx.out]; simp
      · have hkk : k = l.length := by omega
        subst hkk
        go_wp2_with fail
        go_ret
        exact ⟨⟨-1, rfl, by rw [hasB_no hall.out]; rfl⟩, rfl⟩
  refine hidx.mono ?_
  rintro e w' ⟨⟨k, rfl, hk⟩, rfl⟩
  have Hk := Lib.hid hk
  clear hk hidx
  go_wp2_with fail
  go_ret
  exact ⟨ret_bool Hk.out, rfl⟩

end Go.Proofs.YtainmendkigofaaDoor
