/- Contracts: the search for the place of a rule. -/
import Derived.Test.YtnohonedfeacdaaW4b
import Derived.Test.YtnohonedfeacdaaDs
namespace Go.Proofs.Ytnohonedfeacdaa
set_option linter.unusedVariables false
set_option linter.unusedSimpArgs false
open Go.RowKit
attribute [local go_sem] Aft.cell

def Bnd (l : List RuleD) (s e : Int) (lo hi : Nat) : Prop := (∀ t (ht : t < l.length), t < lo → bef4 l[t].s l[t].e s e = true) ∧ (∀ t (ht : t < l.length), hi ≤ t → bef4 l[t].s l[t].e s e = false)

set_option maxHeartbeats 2000000 in
theorem BSearch_Rule (A : Option Addr) (c : Nat) (l : List RuleD) (r : RuleD) (w : World) (hl : Ls w w.heap.size encRule 4 A l) (hm : l.length ≤ 1048576) (hs : schedB l = true) :
    Calls Try.prog 40 #[.slice A l.length c, .agg #[.int .i64 r.s, .int .i64 r.e, .int .i64 r.d, .int .i64 r.a], .func (.func 41) #[] #[]] w fun e w' => e = .returned (.tuple #[.int .i64 (plcR l r.s r.e), .bool (foundB l r.s r.e)]) ∧ Below w.heap.size w w' := by
  have hlen : (l.length : Int) ≤ 1048576 := by omega
  have Hs := Lib.hid hs
  clear hs
  have hB := blw_alloc (Below.refl w.heap.size w) (.cells #[.int .i64 r.s, .int .i64 r.e, .int .i64 r.d, .int .i64 r.a] 47)
  have hl0 := (hl.below hB).more hB.size
  have hr0 : (w.alloc (.cells #[.int .i64 r.s, .int .i64 r.e, .int .i64 r.d, .int .i64 r.a] 47)).cell? ⟨w.heap.size, 0, none⟩ = some (.int .i64 r.s) := by simp
  have hr1 : (w.alloc (.cells #[.int .i64 r.s, .int .i64 r.e, .int .i64 r.d, .int .i64 r.a] 47)).cell? ⟨w.heap.size, 1, none⟩ = some (.int .i64 r.e) := by simp
  have hr2 : (w.alloc (.cells #[.int .i64 r.s, .int .i64 r.e, .int .i64 r.d, .int .i64 r.a] 47)).cell? ⟨w.heap.size, 2, none⟩ = some (.int .i64 r.d) := by simp
  have hr3 : (w.alloc (.cells #[.int .i64 r.s, .int .i64 r.e, .int .i64 r.d, .int .i64 r.a] 47)).cell? ⟨w.heap.size, 3, none⟩ = some (.int .i64 r.a) := by simp
  have hs : w.heap.size < (w.alloc (.cells #[.int .i64 r.s, .int .i64 r.e, .int .i64 r.d, .int .i64 r.a] 47)).heap.size := by simp
  go_enter Try.func40, Try.ntmps40
  go_wp2_with fail
  generalize (w.alloc (.cells #[.int .i64 r.s, .int .i64 r.e, .int .i64 r.d, .int .i64 r.a] 47)) = W0 at *
  go_loopw [9, 10] (fun i j wr => ∃ lo hi : Nat, i = .int .i64 lo ∧ j = .int .i64 hi ∧ lo ≤ hi ∧ hi ≤ l.length ∧ Below W0.heap.size W0 wr ∧ Hid (Bnd l r.s r.e lo hi)) (fun i j _ => (intOf j).toNat - (intOf i).toNat)
  case atStart => exact ⟨0, l.length, rfl, rfl, Nat.zero_le _, Nat.le_refl _, Below.refl _ _, fun t _ h => absurd h (Nat.not_lt_zero _), fun t h1 h2 => by omega⟩
  case round =>
    obtain ⟨lo, hi, rfl, rfl, hlh, hin, hb, HB⟩ := hrel
    have hsz := hb.size
    replace hr0 : wr.cell? ⟨w.heap.size, 0, none⟩ = some (.int .i64 r.s) := (hb.cell (p := ⟨w.heap.size, 0, none⟩) hs).trans hr0
    replace hr1 : wr.cell? ⟨w.heap.size, 1, none⟩ = some (.int .i64 r.e) := (hb.cell (p := ⟨w.heap.size, 1, none⟩) hs).trans hr1
    replace hr2 : wr.cell? ⟨w.heap.size, 2, none⟩ = some (.int .i64 r.d) := (hb.cell (p := ⟨w.heap.size, 2, none⟩) hs).trans hr2
    replace hr3 : wr.cell? ⟨w.heap.size, 3, none⟩ = some (.int .i64 r.a) := (hb.cell (p := ⟨w.heap.size, 3, none⟩) hs).trans hr3
    replace hs := Nat.lt_of_lt_of_le hs hb.size
    by_cases hlt : lo < hi
    · have hmid : (lo + hi) / 2 < l.length := by omega
      obtain ⟨b, off, rfl, hbb, hc0, hc1, hc2, hc3⟩ := (hl0.below hb).at_Rule hmid
      have hq : b < wr.heap.size := by omega
      cases hbf : bef4 l[(lo + hi) / 2].s l[(lo + hi) / 2].e r.s r.e
      · have hcm : ¬ cmp4 l[(lo + hi) / 2].s l[(lo + hi) / 2].e r.s r.e < 0 := by rw [cmp4_lt, hbf]; simp
        have Hbf := Lib.hid hbf
        clear hbf
        go_wp2_with fail
        refine wp_region_calm (by kernel_rfl) (by kernel_rfl) ?_
        repeat (go_big_quiet_step ((go_at_call 41; exact Calls.calm (compareRules_any _ _ _ _ _ _ _ _ _))))
        refine wpQuiet_nil ?_
        rintro _ ⟨⟨w1, hb1⟩, rfl⟩
        go_wp2_with fail
        go_roundw
        case rel => exact ⟨lo, (lo + hi) / 2, rfl, by go_num, by omega, by omega, blw hb hb1, HB.out.1, fun t ht h => bef_up Hs.out ht h Hbf.out⟩
        case measure => simp [intOf]; omega
      · have hcm : cmp4 l[(lo + hi) / 2].s l[(lo + hi) / 2].e r.s r.e < 0 := by rw [cmp4_lt, hbf]
        have Hbf := Lib.hid hbf
        clear hbf
        go_wp2_with fail
        refine wp_region_calm (by kernel_rfl) (by kernel_rfl) ?_
        repeat (go_big_quiet_step ((go_at_call 41; exact Calls.calm (compareRules_any _ _ _ _ _ _ _ _ _))))
        refine wpQuiet_nil ?_
        rintro _ ⟨⟨w1, hb1⟩, rfl⟩
        go_wp2_with fail
        go_roundw
        case rel => exact ⟨(lo + hi) / 2 + 1, hi, by rw [show ((lo : Int) + (hi : Int)) / 2 + 1 = (((lo + hi) / 2 + 1 : Nat) : Int) by omega], rfl, by omega, by omega, blw hb hb1, fun t ht h => bef_down Hs.out hmid (by omega) Hbf.out, HB.out.2⟩
        case measure => simp [intOf]; omega
    · obtain rfl : hi = lo := by omega
      have Hp := Lib.hid (plcR_at hi hin (fun j hj h => HB.out.1 j hj h) (fun h => HB.out.2 hi h (Nat.le_refl _)))
      by_cases hn : hi < l.length
      · obtain ⟨b, off, rfl, hbb, hc0, hc1, hc2, hc3⟩ := (hl0.below hb).at_Rule hn
        have hq : b < wr.heap.size := by omega
        have hni : (hi : Int) < (l.length : Int) := by omega
        have Ht := Lib.hid (show decide (cmp4 l[hi].s l[hi].e r.s r.e = 0) = foundB l r.s r.e by
          have h := plc_test Hs.out (s := r.s) (e := r.e) (by rw [Hp.out]; exact hn)
          simp only [Hp.out] at h
          exact h)
        go_wp2_with fail
        refine wp_region_calm (by kernel_rfl) (by kernel_rfl) ?_
        repeat (go_big_quiet_step ((go_at_call 41; exact Calls.calm (compareRules_any _ _ _ _ _ _ _ _ _))))
        refine wpQuiet_nil ?_
        rintro _ ⟨⟨w1, hb1⟩, rfl⟩
        go_wp2_with fail
        go_ret2
        exact ⟨by rw [Hp.out, ← Ht.out]; first | rfl | simp, blw (blw hB hb) hb1⟩
      · have hni : ¬ (hi : Int) < (l.length : Int) := by omega
        have Hn := Lib.hid (plc_none Hs.out (s := r.s) (e := r.e) (by rw [Hp.out]; omega))
        go_wp2_with fail
        refine wp_region_calm (by kernel_rfl) (by kernel_rfl) ?_
        repeat (go_big_quiet_step ((go_at_call 41; exact Calls.calm (compareRules_any _ _ _ _ _ _ _ _ _))))
        refine wpQuiet_nil ?_
        rintro _ ⟨⟨w1, hb1⟩, rfl⟩
        go_wp2_with fail
        go_ret2
        exact ⟨by first | (rw [Hp.out, Hn.out]; rfl) | (rw [Hp.out, Hn.out]; simp [Act.put]; done) | (set_option pp.deepTerms true in set_option pp.maxSteps 100000 in trace_state), blw (blw hB hb) hb1⟩

end Go.Proofs.Ytnohonedfeacdaa
