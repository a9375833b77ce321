/- Contracts of StrongestAct, LongestPeriod, SeriesIn and IsSchedule, as the laws take them. -/
import Derived.Test.YtmcpkpaanamegaaD4c
import Derived.Test.YtmcpkpaanamegaaHInt
namespace Go.Proofs.Ytmcpkpaanamegaa
set_option linter.unusedVariables false
set_option linter.unusedSimpArgs false
open Go.RowKit
attribute [local go_sem] Aft.cell

theorem c_spec_IsSchedule (A : Option Addr) (c : Nat) (l : List RuleD) (w : World) (hl : Ls w w.heap.size encRule 4 A l) (hm : l.length ≤ 1048576) :
    Calls Try.prog 11 #[.slice A l.length c] w fun e w' => e = .returned (.bool (schedB l)) ∧ Below w.heap.size w w' := specIsSchedule_any A c l w hl (by omega)
theorem c_impl_IsSchedule (A : Option Addr) (c : Nat) (l : List RuleD) (w : World) (hl : Ls w w.heap.size encRule 4 A l) (hm : l.length ≤ 1048576) :
    Calls Try.prog 13 #[.slice A l.length c] w fun e w' => e = .returned (.bool (schedB l)) ∧ Below w.heap.size w w' := IsSchedule_any A c l w hl (by omega)

set_option maxHeartbeats 400000 in
theorem l1Most_any (a b : Int) (w : World) :
    Calls Try.prog 38 #[.int .i64 a, .int .i64 b] w fun e w' => e = .returned (.int .i64 (max a b)) ∧ w = w' := by
  by_cases h : b < a
  · go_enter Try.func38, Try.ntmps38
    go_wp2
    go_ret
    exact ⟨ret_int (by omega), rfl⟩
  · go_enter Try.func38, Try.ntmps38
    go_wp2
    go_ret
    exact ⟨ret_int (by omega), rfl⟩

set_option maxHeartbeats 1000000 in
theorem c_spec_StrongestAct (A : Option Addr) (c : Nat) (l : List RuleD) (s : Int) (w : World) (hl : Ls w w.heap.size encRule 4 A l) (hm : l.length ≤ 1048576) :
    Calls Try.prog 15 #[.slice A l.length c, .int .i64 s] w fun e w' => e = .returned (.tuple #[.int .i64 (strongF l s), .bool (someB l s)]) ∧ Below w.heap.size w w' := by
  have hm' : l.length ≤ 9223372036854775807 := by omega
  have hle := forS_le l s
  go_enter Try.func15, Try.ntmps15
  go_wp2_with fail
  refine (l4For_any _ _ _ _ _ hl hm).mono ?_
  rintro e w1 ⟨A1, c1, rfl, hv1, hb1⟩
  go_wp2_with fail
  refine (l4Good_any _ _ _ _ ((hl.below hb1).more hb1.size) hm').mono ?_
  cases h1 : schedB l
  · rintro e w2 ⟨rfl, hb2⟩
    go_wp2_with fail
    go_ret2
    exact ⟨by simp [strongF, someB, h1], blw hb1 hb2⟩
  · rintro e w2 ⟨rfl, hb2⟩
    have hv2 := hv1.on hb2
    have hL := hv2.ls encRule_len
    have hbd : ∀ r ∈ forS l s, 1 ≤ r.a ∧ r.a ≤ 3 := fun r hr => (forS_bd h1 r hr).1.2.2.2
    have Hbd := Lib.hid hbd
    have hlen : ((forS l s).length : Int) ≤ 1048576 := by omega
    have Hs : Hid (strongF l s = if 0 < (forS l s).length then minK (forS l s) (forS l s).length else 0) := by unfold Hid strongF; simp [h1]
    have Hb : Hid (someB l s = decide (0 < (forS l s).length)) := by unfold Hid someB; simp [h1]
    clear hbd hv1 hv2
    have hb12 := blw hb1 hb2
    go_wp2_with fail
    go_loopw [7, 8] (fun v i wr => ∃ k : Nat, k ≤ (forS l s).length ∧ i = .int .i64 k ∧ v = .int .i64 (if k = 0 then 0 else minK (forS l s) k) ∧ Below w2.heap.size w2 wr) (fun _ i _ => (forS l s).length - (intOf i).toNat)
    case atStart => exact ⟨0, Nat.zero_le _, rfl, rfl, Below.refl _ _⟩
    case round =>
      obtain ⟨k, hk, rfl, rfl, hb⟩ := hrel
      by_cases hlt : k < (forS l s).length
      · obtain ⟨b, off, rfl, hbb, hc0, hc1, hc2, hc3⟩ := (hL.below hb).at_Rule hlt
        have hsz := hb.size
        have hq : b < wr.heap.size := by omega
        have hi0 : (0 : Int) ≤ (k : Int) := by omega
        have hi1 : (k : Int) < ((forS l s).length : Int) := by omega
        have hbk := Hbd.out _ (List.getElem_mem hlt)
        have HS := Lib.hid (minK_succ hlt)
        by_cases hk0 : k = 0
        · have H1 := Lib.hid (minK_one (show 0 < (forS l s).length by omega))
          subst hk0
          go_wp2_with fail
          go_roundw
          case rel => exact ⟨1, by omega, rfl, by rw [if_neg (by omega), H1.out], hb⟩
          case measure => simp [intOf]; omega
        · have hmb := minK_bd Hbd.out (by omega) k (by omega)
          have hv : (if k = 0 then (0 : Int) else minK (forS l s) k) = minK (forS l s) k := if_neg hk0
          have Hk0 := Lib.hid hk0
          rw [hv]
          generalize hmm : minK (forS l s) k = mm at *
          have Hmm := Lib.hid hmm
          have hz : (mm == 0) = false := by simp; omega
          clear hmm hv hk0
          by_cases hc : (forS l s)[k].a < mm
          · go_wp2_with fail
            go_roundw
            case rel => exact ⟨k + 1, by omega, by go_num, by rw [if_neg (by omega), HS.out, Int.min_eq_right (by omega)], hb⟩
            case measure => simp [intOf]; omega
          · have hc2 : decide ((forS l s)[k].a < mm) = false := by simp; omega
            go_wp2_with fail
            go_roundw
            case rel => exact ⟨k + 1, by omega, by go_num, by rw [if_neg (by omega), HS.out, Int.min_eq_left (by omega)], hb⟩
            case measure => simp [intOf]; omega
      · have hkk : k = (forS l s).length := by omega
        subst hkk
        by_cases h0 : (forS l s).length = 0
        · have hv : (if (forS l s).length = 0 then (0 : Int) else minK (forS l s) (forS l s).length) = 0 := if_pos h0
          have H0 := Lib.hid h0
          rw [hv]
          clear h0 hv
          go_wp2_with fail
          go_ret2
          exact ⟨by rw [Hs.out, Hb.out]; simp [H0.out], blw hb12 hb⟩
        · have hmb := minK_bd Hbd.out (by omega) _ (Nat.le_refl _)
          have hv : (if (forS l s).length = 0 then (0 : Int) else minK (forS l s) (forS l s).length) = minK (forS l s) (forS l s).length := if_neg h0
          rw [hv]
          have h00 : 0 < (forS l s).length := by omega
          have hp : decide (0 < minK (forS l s) (forS l s).length) = true := by simp; omega
          clear h0 hv
          go_wp2_with fail
          go_ret2
          exact ⟨by rw [Hs.out, Hb.out]; simp [h00], blw hb12 hb⟩

set_option maxHeartbeats 1000000 in
theorem c_spec_LongestPeriod (A : Option Addr) (c : Nat) (l : List RuleD) (s : Int) (w : World) (hl : Ls w w.heap.size encRule 4 A l) (hm : l.length ≤ 1048576) :
    Calls Try.prog 17 #[.slice A l.length c, .int .i64 s] w fun e w' => e = .returned (.tuple #[.int .i64 (longF l s), .bool (someB l s)]) ∧ Below w.heap.size w w' := by
  have hm' : l.length ≤ 9223372036854775807 := by omega
  have hle := forS_le l s
  go_enter Try.func17, Try.ntmps17
  go_wp2_with fail
  refine (l4For_any _ _ _ _ _ hl hm).mono ?_
  rintro e w1 ⟨A1, c1, rfl, hv1, hb1⟩
  go_wp2_with fail
  refine (l4Good_any _ _ _ _ ((hl.below hb1).more hb1.size) hm').mono ?_
  cases h1 : schedB l
  · rintro e w2 ⟨rfl, hb2⟩
    go_wp2_with fail
    go_ret2
    exact ⟨by simp [longF, someB, h1], blw hb1 hb2⟩
  · rintro e w2 ⟨rfl, hb2⟩
    have hv2 := hv1.on hb2
    have hL := hv2.ls encRule_len
    have hlen : ((forS l s).length : Int) ≤ 1048576 := by omega
    have Hs : Hid (longF l s = if 0 < (forS l s).length then maxK (forS l s) (forS l s).length else 0) := by unfold Hid longF; simp [h1]
    have Hb : Hid (someB l s = decide (0 < (forS l s).length)) := by unfold Hid someB; simp [h1]
    clear hv1 hv2
    have hb12 := blw hb1 hb2
    by_cases h0 : (forS l s).length = 0
    · have hz : (((forS l s).length : Int) == 0) = true := by simp [h0]
      have H0 := Lib.hid h0
      clear h0
      go_wp2_with fail
      go_ret2
      exact ⟨by rw [Hs.out, Hb.out]; simp [H0.out], hb12⟩
    · have hz : (((forS l s).length : Int) == 0) = false := by rw [beq_eq_false_iff_ne]; omega
      have h00 : 0 < (forS l s).length := by omega
      clear h0
      go_wp2_with fail
      go_loopw [7, 8] (fun v i wr => ∃ k : Nat, k ≤ (forS l s).length ∧ i = .int .i64 k ∧ v = .int .i64 (maxK (forS l s) k) ∧ Below w2.heap.size w2 wr) (fun _ i _ => (forS l s).length - (intOf i).toNat)
      case atStart => exact ⟨0, Nat.zero_le _, rfl, by simp [maxK], Below.refl _ _⟩
      case round =>
        obtain ⟨k, hk, rfl, rfl, hb⟩ := hrel
        by_cases hlt : k < (forS l s).length
        · obtain ⟨b, off, rfl, hbb, hc0, hc1, hc2, hc3⟩ := (hL.below hb).at_Rule hlt
          have hsz := hb.size
          have HS := Lib.hid (maxK_succ hlt)
          go_wp2_with (go_at_call 38; refine (l1Most_any _ _ _).mono ?_; rintro e w' ⟨rfl, rfl⟩)
          go_roundw
          case rel => exact ⟨k + 1, by omega, by go_num, by rw [HS.out], hb⟩
          case measure => simp [intOf]; omega
        · have hkk : k = (forS l s).length := by omega
          subst hkk
          go_wp2_with fail
          go_ret2
          exact ⟨by rw [Hs.out, Hb.out]; simp [h00], blw hb12 hb⟩


set_option maxHeartbeats 1000000 in
theorem c_impl_StrongestAct (A : Option Addr) (c : Nat) (l : List RuleD) (s : Int) (w : World) (hl : Ls w w.heap.size encRule 4 A l) (hm : l.length ≤ 1048576) :
    Calls Try.prog 16 #[.slice A l.length c, .int .i64 s] w fun e w' => e = .returned (.tuple #[.int .i64 (strongF l s), .bool (someB l s)]) ∧ Below w.heap.size w w' := by
  have hle := rulesForL_le l s
  go_enter Try.func16, Try.ntmps16
  go_wp2_with fail
  refine (c_impl_RulesFor _ _ _ _ _ hl hm).mono ?_
  by_cases hok : (schedB l && isIdB s) = true
  · have h1 : schedB l = true := by simp at hok; exact hok.1
    rw [hok]
    rw [rulesForL_eq h1] at hle ⊢
    rintro e w1 ⟨A1, c1, rfl, hv1, hb1⟩
    have hL := hv1.ls encRule_len
    have hlen : ((forS l s).length : Int) ≤ 1048576 := by omega
    have Hs : Hid (strongF l s = if 0 < (forS l s).length then minK (forS l s) (forS l s).length else 0) := by unfold Hid strongF; simp [h1]
    have Hb : Hid (someB l s = decide (0 < (forS l s).length)) := by unfold Hid someB; simp [h1]
    clear hv1 hok
    by_cases h0 : (forS l s).length = 0
    · have hz : (((forS l s).length : Int) == 0) = true := by simp [h0]
      have H0 := Lib.hid h0
      clear h0
      go_wp2_with fail
      go_ret2
      exact ⟨by rw [Hs.out, Hb.out]; simp [H0.out], hb1⟩
    · have hz : (((forS l s).length : Int) == 0) = false := by rw [beq_eq_false_iff_ne]; omega
      have h00 : 0 < (forS l s).length := by omega
      have h00' : (0 : Int) < ((forS l s).length : Int) := by omega
      clear h0
      obtain ⟨b0, off0, hA0, _, hd0, hd1, hd2, hd3⟩ := hL.at_Rule h00
      subst hA0
      simp only [Nat.zero_mul, Nat.add_zero] at hd0 hd1 hd2 hd3
      go_wp2_with fail
      go_loopw [8, 30] (fun v i wr => ∃ k : Nat, k ≤ (forS l s).length ∧ i = .int .i64 k ∧ v = .int .i64 (minK (forS l s) k) ∧ Below w1.heap.size w1 wr) (fun _ i _ => (forS l s).length - (intOf i).toNat)
      case atStart => exact ⟨0, Nat.zero_le _, rfl, by simp [minK, List.getD_eq_getElem?_getD, h00], Below.refl _ _⟩
      case round =>
        obtain ⟨k, hk, rfl, rfl, hb⟩ := hrel
        by_cases hlt : k < (forS l s).length
        · obtain ⟨b, off, hA, hbb, hc0, hc1, hc2, hc3⟩ := (hL.below hb).at_Rule hlt
          cases hA
          have hsz := hb.size
          have HS := Lib.hid (minK_succ hlt)
          go_wp2_with fail
          go_roundw
          case rel => exact ⟨k + 1, by omega, by go_num, by rw [HS.out]; congr 1; split <;> omega, blw_alloc hb _⟩
          case measure => simp [intOf]; omega
        · have hkk : k = (forS l s).length := by omega
          subst hkk
          go_wp2_with fail
          go_ret2
          exact ⟨by rw [Hs.out, Hb.out]; simp [h00], blw hb1 hb⟩
  · have hn : (schedB l && isIdB s) = false := by simpa using hok
    have e0 : rulesForL l s = [] := by simp [rulesForL, hn]
    have Hs : Hid (strongF l s = 0 ∧ someB l s = false) := by
      unfold Hid strongF someB
      cases h1 : schedB l
      · simp
      · have h2 : isIdB s = false := by simpa [h1] using hn
        simp [forS_id h1 h2]
    rw [hn, e0]
    rintro e w1 ⟨A1, c1, rfl, hv1, hb1⟩
    clear hv1 hn hok e0
    go_wp2_with fail
    go_ret2
    exact ⟨by rw [Hs.out.1, Hs.out.2]; rfl, hb1⟩

set_option maxHeartbeats 1000000 in
theorem c_impl_LongestPeriod (A : Option Addr) (c : Nat) (l : List RuleD) (s : Int) (w : World) (hl : Ls w w.heap.size encRule 4 A l) (hm : l.length ≤ 1048576) :
    Calls Try.prog 18 #[.slice A l.length c, .int .i64 s] w fun e w' => e = .returned (.tuple #[.int .i64 (longF l s), .bool (someB l s)]) ∧ Below w.heap.size w w' := by
  have hle := rulesForL_le l s
  go_enter Try.func18, Try.ntmps18
  go_wp2_with fail
  refine (c_impl_RulesFor _ _ _ _ _ hl hm).mono ?_
  by_cases hok : (schedB l && isIdB s) = true
  · have h1 : schedB l = true := by simp at hok; exact hok.1
    rw [hok]
    rw [rulesForL_eq h1] at hle ⊢
    rintro e w1 ⟨A1, c1, rfl, hv1, hb1⟩
    have hL := hv1.ls encRule_len
    have hlen : ((forS l s).length : Int) ≤ 1048576 := by omega
    have Hs : Hid (longF l s = if 0 < (forS l s).length then maxK (forS l s) (forS l s).length else 0) := by unfold Hid longF; simp [h1]
    have Hb : Hid (someB l s = decide (0 < (forS l s).length)) := by unfold Hid someB; simp [h1]
    clear hv1 hok
    by_cases h0 : (forS l s).length = 0
    · have hz : (((forS l s).length : Int) == 0) = true := by simp [h0]
      have H0 := Lib.hid h0
      clear h0
      go_wp2_with fail
      go_ret2
      exact ⟨by rw [Hs.out, Hb.out]; simp [H0.out], hb1⟩
    · have hz : (((forS l s).length : Int) == 0) = false := by rw [beq_eq_false_iff_ne]; omega
      have h00 : 0 < (forS l s).length := by omega
      have h00' : (0 : Int) < ((forS l s).length : Int) := by omega
      clear h0
      obtain ⟨b0, off0, hA0, _, hd0, hd1, hd2, hd3⟩ := hL.at_Rule h00
      subst hA0
      simp only [Nat.zero_mul, Nat.add_zero] at hd0 hd1 hd2 hd3
      go_wp2_with fail
      go_loopw [8, 26] (fun v i wr => ∃ k : Nat, k ≤ (forS l s).length ∧ i = .int .i64 k ∧ v = .int .i64 (maxK (forS l s) k) ∧ Below w1.heap.size w1 wr) (fun _ i _ => (forS l s).length - (intOf i).toNat)
      case atStart => exact ⟨0, Nat.zero_le _, rfl, by simp [maxK], Below.refl _ _⟩
      case round =>
        obtain ⟨k, hk, rfl, rfl, hb⟩ := hrel
        by_cases hlt : k < (forS l s).length
        · obtain ⟨b, off, hA, hbb, hc0, hc1, hc2, hc3⟩ := (hL.below hb).at_Rule hlt
          cases hA
          have hsz := hb.size
          have HS := Lib.hid (maxK_succ hlt)
          go_wp2_with fail
          go_roundw
          case rel => exact ⟨k + 1, by omega, by go_num, by rw [HS.out]; congr 1; split <;> omega, blw_alloc hb _⟩
          case measure => simp [intOf]; omega
        · have hkk : k = (forS l s).length := by omega
          subst hkk
          go_wp2_with fail
          go_ret2
          exact ⟨by rw [Hs.out, Hb.out]; simp [h00], blw hb1 hb⟩
  · have hn : (schedB l && isIdB s) = false := by simpa using hok
    have e0 : rulesForL l s = [] := by simp [rulesForL, hn]
    have Hs : Hid (longF l s = 0 ∧ someB l s = false) := by
      unfold Hid longF someB
      cases h1 : schedB l
      · simp
      · have h2 : isIdB s = false := by simpa [h1] using hn
        simp [forS_id h1 h2]
    rw [hn, e0]
    rintro e w1 ⟨A1, c1, rfl, hv1, hb1⟩
    clear hv1 hn hok e0
    go_wp2_with fail
    go_ret2
    exact ⟨by rw [Hs.out.1, Hs.out.2]; rfl, hb1⟩

set_option maxHeartbeats 1000000 in
theorem l1Has_any (A : Option Addr) (c : Nat) (l : List Int) (x : Int) (w : World) (hl : Ls w w.heap.size encInt 1 A l) (hm : l.length ≤ 9223372036854775807) :
    Calls Try.prog 47 #[.slice A l.length c, .int .i64 x] w fun e w' => e = .returned (.bool (hasB l x)) ∧ w = w' := by
  have hlen : (l.length : Int) ≤ 9223372036854775807 := by omega
  go_enter Try.func47, Try.ntmps47
  go_wp2_with fail
  go_loop [5] (fun i => ∃ k : Nat, k ≤ l.length ∧ i = .int .i64 k ∧ Hid (∀ j (hj : j < l.length), j < k → l[j] ≠ x)) (fun i => l.length - (intOf i).toNat)
  case atStart => exact ⟨0, Nat.zero_le _, rfl, fun j _ hj => absurd hj (Nat.not_lt_zero _)⟩
  case round =>
    obtain ⟨k, hk, rfl, hall⟩ := hrel
    by_cases hlt : k < l.length
    · obtain ⟨b, off, rfl, hbb, hc0⟩ := hl.at_Int hlt
      cases hx : l[k] == x
      · have Hx := Lib.hid (show l[k] ≠ x by simpa using hx)
        go_wp2_with fail
        go_round
        case rel => exact ⟨k + 1, by omega, by go_num, fun j hj hjk => by rcases Nat.lt_succ_iff_lt_or_eq.1 hjk with h | rfl; exact hall.out j hj h; exact Hx.out⟩
        case measure => simp [intOf]; omega
      · have Hx := Lib.hid (show l[k] = x by simpa using hx)
        go_wp2_with fail
        go_ret
        exact ⟨ret_bool (hasB_yes k hlt Hx.out).symm, rfl⟩
    · have hkk : k = l.length := by omega
      subst hkk
      go_wp2_with fail
      go_ret
      exact ⟨ret_bool (hasB_no hall.out).symm, rfl⟩

set_option maxHeartbeats 1000000 in
theorem Contains_any (A : Option Addr) (c : Nat) (l : List Int) (x : Int) (w : World) (hl : Ls w w.heap.size encInt 1 A l) (hm : l.length ≤ 9223372036854775807) :
    Calls Try.prog 57 #[.slice A l.length c, .int .i64 x] w fun e w' => e = .returned (.bool (hasB l x)) ∧ w = w' := by
  have hlen : (l.length : Int) ≤ 9223372036854775807 := by omega
  go_enter Try.func57, Try.ntmps57
  go_wp2_with fail
  have hidx : Calls Try.prog 61 #[.slice A l.length c, .int .i64 x] w fun e w' => (∃ k : Int, e = .returned (.int .i64 k) ∧ decide (0 ≤ k) = hasB l x) ∧ w = w' := by
    go_enter Try.func61, Try.ntmps61
    go_wp2_with fail
    go_loop [8] (fun i => ∃ k : Nat, k ≤ l.length ∧ i = .int .i64 k ∧ Hid (∀ j (hj : j < l.length), j < k → l[j] ≠ x)) (fun i => l.length - (intOf i).toNat)
    case atStart => exact ⟨0, Nat.zero_le _, rfl, fun j _ hj => absurd hj (Nat.not_lt_zero _)⟩
    case round =>
      obtain ⟨k, hk, rfl, hall⟩ := hrel
      by_cases hlt : k < l.length
      · obtain ⟨b, off, rfl, hbb, hc0⟩ := hl.at_Int hlt
        cases hx : x == l[k]
        · have Hx := Lib.hid (show l[k] ≠ x by simp at hx; exact fun h => hx h.symm)
          go_wp2_with fail
          go_round
          case rel => exact ⟨k + 1, by omega, by go_num, fun j hj hjk => by rcases Nat.lt_succ_iff_lt_or_eq.1 hjk with h | rfl; exact hall.out j hj h; exact Hx.out⟩
          case measure => simp [intOf]; omega
        · have Hx := Lib.hid (show l[k] = x by simp at hx; exact hx.symm)
          go_wp2_with fail
          go_ret
          refine ⟨⟨k, rfl, ?_⟩, rfl⟩
          rw [hasB_yes k hlt Hx.out]; simp
      · have hkk : k = l.length := by omega
        subst hkk
        go_wp2_with fail
        go_ret
        exact ⟨⟨-1, rfl, by rw [hasB_no hall.out]; rfl⟩, rfl⟩
  refine hidx.mono ?_
  rintro e w' ⟨⟨k, rfl, hk⟩, rfl⟩
  have Hk := Lib.hid hk
  clear hk hidx
  go_wp2_with fail
  go_ret
  exact ⟨ret_bool Hk.out, rfl⟩

set_option maxHeartbeats 1000000 in
theorem seriesIn_any (A : Option Addr) (c : Nat) (l : List RuleD) (w : World) (hl : Ls w w.heap.size encRule 4 A l) (hm : l.length ≤ 1048576) :
    Calls Try.prog 48 #[.slice A l.length c] w (RetS w 3 encInt 1 (serK l l.length)) := by
  have hlen : (l.length : Int) ≤ 1048576 := by omega
  go_enter Try.func48, Try.ntmps48
  go_wp2_with fail
  go_loopw [3, 8] (fun v i wr => ∃ (k : Nat) (A' : Option Addr) (c' : Nat), k ≤ l.length ∧ i = .int .i64 k ∧ v = .slice A' (serK l k).length c' ∧ Vec wr w.heap.size 3 encInt 1 (.slice A' (serK l k).length c') (serK l k) ∧ Below w.heap.size w wr) (fun _ i _ => l.length - (intOf i).toNat)
  case atStart => exact ⟨0, none, 0, Nat.zero_le _, rfl, rfl, Vec.nil, Below.refl _ _⟩
  case round =>
    obtain ⟨k, A', c', hk, rfl, rfl, hv, hb⟩ := hrel
    by_cases hlt : k < l.length
    · obtain ⟨b, off, rfl, hbb, hc0, hc1, hc2, hc3⟩ := (hl.below hb).at_Rule hlt
      have hsz := hb.size
      have hle := serK_le l k
      have hva := (hv.alloc (.cells #[.int .i64 l[k].s, .int .i64 l[k].e, .int .i64 l[k].d, .int .i64 l[k].a] 45))
      go_wp2_with fail
      refine (Contains_any _ _ (serK l k) _ _ (hva.ls encInt_len) (by omega)).mono ?_
      cases hs : hasB (serK l k) l[k].s
      · have he := Lib.hid (serK_no hlt hs)
        clear hs
        rintro e w1 ⟨rfl, rfl⟩
        have hF1 : (serK l k).length + [l[k].s].length ≤ maxLen := by unfold maxLen; simp; omega
        have hF2 : ((serK l k).length + [l[k].s].length) * 8 ≤ 140737488355328 := by simp; omega
        go_wp2_with (at_builtin; refine wpList_app rfl (.tmp 17) (.tmp 20) 37 rfl 3 (.int .i64 0) 1 8 Try.underlying37 (by kernel_rfl) rfl (by omega) encInt_len one_int A' c' (serK l k) rfl (hva.alloc _) _ 1 (_ + 1) [l[k].s] rfl (by exact Ls.one_at (by simp) rfl) hF1 hF2 (by simp; omega) ?_; intro A2 c2 w1 hv1 hw1)
        have hb1 : Below w.heap.size w w1 := (blw_alloc (blw_alloc hb _) _).trans (hw1.below (by simp; omega) (fun x hx => (hv.block hx).1))
        go_roundw
        case rel => exact ⟨k + 1, A2, c2, by omega, by go_num, by rw [he.out]; simp, by rw [he.out]; exact hv1, hb1⟩
        case measure => simp [intOf]; omega
      · have he := Lib.hid (serK_yes hlt hs)
        clear hs
        rintro e w1 ⟨rfl, rfl⟩
        go_wp2_with fail
        go_roundw
        case rel => exact ⟨k + 1, A', c', by omega, by go_num, by rw [he.out], by rw [he.out]; exact hva, blw_alloc hb _⟩
        case measure => simp [intOf]; omega
    · have hkk : k = l.length := by omega
      subst hkk
      go_wp2_with fail
      go_ret
      exact ⟨A', c', rfl, hv, hb⟩

set_option maxHeartbeats 1000000 in
theorem c_impl_SeriesIn (A : Option Addr) (c : Nat) (l : List RuleD) (w : World) (hl : Ls w w.heap.size encRule 4 A l) (hm : l.length ≤ 1048576) :
    Calls Try.prog 26 #[.slice A l.length c] w (RetSB w 3 encInt 1 (seriesL l) (schedB l)) := by
  have hm' : l.length ≤ 9223372036854775807 := by omega
  cases h1 : schedB l
  · have e0 := Lib.hid (show seriesL l = [] by simp [seriesL, h1])
    go_enter Try.func26, Try.ntmps26
    go_wp2_with fail
    refine (IsSchedule_any _ _ _ _ hl hm').mono ?_
    rw [h1]
    rintro e w1 ⟨rfl, hb1⟩
    go_wp2_with fail
    go_ret2
    exact ⟨none, 0, by rw [e0.out]; rfl, by rw [e0.out]; exact Vec.nil, hb1⟩
  · have e0 := Lib.hid (show seriesL l = serK l l.length by simp [seriesL, h1])
    go_enter Try.func26, Try.ntmps26
    go_wp2_with fail
    refine (IsSchedule_any _ _ _ _ hl hm').mono ?_
    rw [h1]
    rintro e w1 ⟨rfl, hb1⟩
    go_wp2_with fail
    refine (seriesIn_any _ _ _ _ ((hl.below hb1).more hb1.size) hm).mono ?_
    rintro e w3 ⟨A', c', rfl, hv3, hb3⟩
    go_wp2_with fail
    go_ret2
    exact ⟨A', c', by rw [e0.out]; rfl, by rw [e0.out]; exact hv3.mono hb1.size, blw hb1 hb3⟩

set_option maxHeartbeats 1000000 in
theorem c_spec_SeriesIn (A : Option Addr) (c : Nat) (l : List RuleD) (w : World) (hl : Ls w w.heap.size encRule 4 A l) (hm : l.length ≤ 1048576) :
    Calls Try.prog 25 #[.slice A l.length c] w (RetSB w 3 encInt 1 (seriesL l) (schedB l)) := by
  have hm' : l.length ≤ 9223372036854775807 := by omega
  have hlen : (l.length : Int) ≤ 1048576 := by omega
  cases h1 : schedB l
  · have e0 := Lib.hid (show seriesL l = [] by simp [seriesL, h1])
    go_enter Try.func25, Try.ntmps25
    go_wp2_with fail
    have hmk : Vec (w.alloc (.cells #[] 3)) w.heap.size 3 encInt 1 (.slice (some ⟨w.heap.size, 0, none⟩) 0 0) [] := Vec.empty _ _ _ (Nat.le_refl _)
    have hbel := blw_alloc (Below.refl w.heap.size w) (.cells #[] 3)
    refine (l4Good_any _ _ _ _ ((hl.below hbel).more hbel.size) hm').mono ?_
    rw [h1]
    rintro e w1 ⟨rfl, hb1⟩
    go_wp2_with fail
    go_ret2
    exact ⟨_, 0, by rw [e0.out]; rfl, by rw [e0.out]; exact hmk.on hb1, blw hbel hb1⟩
  · have e0 := Lib.hid (show seriesL l = serK l l.length by simp [seriesL, h1])
    go_enter Try.func25, Try.ntmps25
    go_wp2_with fail
    have hmk : Vec (w.alloc (.cells #[] 3)) w.heap.size 3 encInt 1 (.slice (some ⟨w.heap.size, 0, none⟩) 0 0) [] := Vec.empty _ _ _ (Nat.le_refl _)
    have hbel := blw_alloc (Below.refl w.heap.size w) (.cells #[] 3)
    refine (l4Good_any _ _ _ _ ((hl.below hbel).more hbel.size) hm').mono ?_
    rw [h1]
    rintro e w1 ⟨rfl, hb1⟩
    have hmk1 := hmk.on hb1
    have hbel1 := blw hbel hb1
    clear hmk hbel hb1
    go_wp2_with fail
    go_loopw [4, 5] (fun v i wr => ∃ (k : Nat) (A' : Option Addr) (c' : Nat), k ≤ l.length ∧ i = .int .i64 k ∧ v = .slice A' (serK l k).length c' ∧ Vec wr w.heap.size 3 encInt 1 (.slice A' (serK l k).length c') (serK l k) ∧ Below w.heap.size w wr) (fun _ i _ => l.length - (intOf i).toNat)
    case atStart => exact ⟨0, _, 0, Nat.zero_le _, rfl, rfl, hmk1, hbel1⟩
    case round =>
      clear hmk1 hbel1
      obtain ⟨k, A', c', hk, rfl, rfl, hv, hb⟩ := hrel
      by_cases hlt : k < l.length
      · obtain ⟨b, off, rfl, hbb, hc0, hc1, hc2, hc3⟩ := (hl.below hb).at_Rule hlt
        have hsz := hb.size
        have hle := serK_le l k
        go_wp2_with fail
        refine (l1Has_any _ _ (serK l k) _ _ (hv.ls encInt_len) (by omega)).mono ?_
        cases hs : hasB (serK l k) l[k].s
        · have he := Lib.hid (serK_no hlt hs)
          clear hs
          rintro e w1 ⟨rfl, rfl⟩
          have hF1 : (serK l k).length + [l[k].s].length ≤ maxLen := by unfold maxLen; simp; omega
          have hF2 : ((serK l k).length + [l[k].s].length) * 8 ≤ 140737488355328 := by simp; omega
          go_wp2_with (at_builtin; refine wpList_app rfl (.tmp 25) (.tmp 31) 37 rfl 3 (.int .i64 0) 1 8 Try.underlying37 (by kernel_rfl) rfl (by omega) encInt_len one_int A' c' (serK l k) rfl (hv.alloc _) _ 1 (_ + 1) [l[k].s] rfl (by exact Ls.one_at (by simp) rfl) hF1 hF2 (by simp; omega) ?_; intro A2 c2 w1 hv1 hw1)
          have hb1 : Below w.heap.size w w1 := (blw_alloc hb _).trans (hw1.below (by simp; omega) (fun x hx => (hv.block hx).1))
          go_roundw
          case rel => exact ⟨k + 1, A2, c2, by omega, by go_num, by rw [he.out]; simp, by rw [he.out]; exact hv1, hb1⟩
          case measure => simp [intOf]; omega
        · have he := Lib.hid (serK_yes hlt hs)
          clear hs
          rintro e w1 ⟨rfl, rfl⟩
          go_wp2_with fail
          go_roundw
          case rel => exact ⟨k + 1, A', c', by omega, by go_num, by rw [he.out], by rw [he.out]; exact hv, hb⟩
          case measure => simp [intOf]; omega
      · have hkk : k = l.length := by omega
        subst hkk
        go_wp2_with fail
        go_ret2
        exact ⟨A', c', by rw [e0.out]; rfl, by rw [e0.out]; exact hv, hb⟩

end Go.Proofs.Ytmcpkpaanamegaa
