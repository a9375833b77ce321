/- Contracts: PutRule of the reference. -/
import Derived.Test.YtnohonedfeacdaaW4q
import Derived.Deep.RegionLaw
import Derived.Test.YtnohonedfeacdaaSg
namespace Go.Proofs.Ytnohonedfeacdaa
set_option linter.unusedVariables false
set_option linter.unusedSimpArgs false
open Go.RowKit
attribute [local go_sem] Aft.cell

set_option maxHeartbeats 1600000 in
theorem c_spec_PutRule (A : Option Addr) (c : Nat) (l : List RuleD) (r : RuleD) (w : World) (hl : Ls w w.heap.size encRule 4 A l) (hm : l.length ≤ 1048576) :
    Calls Try.prog 14 #[.slice A l.length c, .agg #[.int .i64 r.s, .int .i64 r.e, .int .i64 r.d, .int .i64 r.a]] w (RetSB w 47 encRule 4 (putL l r) (putB l r)) := by
  have hlen : (l.length : Int) ≤ 1048576 := by omega
  have hB := blw_alloc (Below.refl w.heap.size w) (.cells #[.int .i64 r.s, .int .i64 r.e, .int .i64 r.d, .int .i64 r.a] 47)
  have hl0 := (hl.below hB).more hB.size
  have hr0 : (w.alloc (.cells #[.int .i64 r.s, .int .i64 r.e, .int .i64 r.d, .int .i64 r.a] 47)).cell? ⟨w.heap.size, 0, none⟩ = some (.int .i64 r.s) := by simp
  have hr1 : (w.alloc (.cells #[.int .i64 r.s, .int .i64 r.e, .int .i64 r.d, .int .i64 r.a] 47)).cell? ⟨w.heap.size, 1, none⟩ = some (.int .i64 r.e) := by simp
  have hr2 : (w.alloc (.cells #[.int .i64 r.s, .int .i64 r.e, .int .i64 r.d, .int .i64 r.a] 47)).cell? ⟨w.heap.size, 2, none⟩ = some (.int .i64 r.d) := by simp
  have hr3 : (w.alloc (.cells #[.int .i64 r.s, .int .i64 r.e, .int .i64 r.d, .int .i64 r.a] 47)).cell? ⟨w.heap.size, 3, none⟩ = some (.int .i64 r.a) := by simp
  have hs : w.heap.size < (w.alloc (.cells #[.int .i64 r.s, .int .i64 r.e, .int .i64 r.d, .int .i64 r.a] 47)).heap.size := by simp
  have hG := l4Good_any A c l (w.alloc (.cells #[.int .i64 r.s, .int .i64 r.e, .int .i64 r.d, .int .i64 r.a] 47)) hl0 (by omega)
  cases h1 : schedB l
  · rw [h1] at hG
    have Hv := Lib.hid (putB_bad (r := r) (.inl h1))
    clear h1
    go_enter Try.func14, Try.ntmps14
    go_wp2_with fail
    refine hG.mono ?_
    rintro e w1 ⟨rfl, hb1⟩
    go_wp2_with fail
    go_ret2
    exact ⟨_, 0, by rw [Hv.out.1, Hv.out.2]; rfl, by rw [Hv.out.2]; exact Vec.empty _ _ _ (blw hB hb1).size, blw_alloc (blw hB hb1) _⟩
  · rw [h1] at hG
    have hR := fun W => l4One_any r.s r.e r.d r.a W
    cases h2 : rulB r
    · have h2' : ruleB r.s r.e r.d r.a = false := h2
      rw [h2'] at hR
      have Hv := Lib.hid (putB_bad (l := l) (.inr (.inl h2)))
      clear h1 h2 h2'
      go_enter Try.func14, Try.ntmps14
      go_wp2_with fail
      refine hG.mono ?_
      rintro e w1 ⟨rfl, hb1⟩
      generalize (w.alloc (.cells #[.int .i64 r.s, .int .i64 r.e, .int .i64 r.d, .int .i64 r.a] 47)) = W0 at *
      replace hr0 : w1.cell? ⟨w.heap.size, 0, none⟩ = some (.int .i64 r.s) := (hb1.cell (p := ⟨w.heap.size, 0, none⟩) hs).trans hr0
      replace hr1 : w1.cell? ⟨w.heap.size, 1, none⟩ = some (.int .i64 r.e) := (hb1.cell (p := ⟨w.heap.size, 1, none⟩) hs).trans hr1
      replace hr2 : w1.cell? ⟨w.heap.size, 2, none⟩ = some (.int .i64 r.d) := (hb1.cell (p := ⟨w.heap.size, 2, none⟩) hs).trans hr2
      replace hr3 : w1.cell? ⟨w.heap.size, 3, none⟩ = some (.int .i64 r.a) := (hb1.cell (p := ⟨w.heap.size, 3, none⟩) hs).trans hr3
      replace hs := Nat.lt_of_lt_of_le hs hb1.size
      go_wp2_with fail
      refine (hR _).mono ?_
      rintro e w2 ⟨rfl, hb2⟩
      have hB2 := blw (blw hB hb1) hb2
      go_wp2_with fail
      go_ret2
      exact ⟨_, 0, by rw [Hv.out.1, Hv.out.2]; rfl, by rw [Hv.out.2]; exact Vec.empty _ _ _ hB2.size, blw_alloc hB2 _⟩
    · have h2' : ruleB r.s r.e r.d r.a = true := h2
      rw [h2'] at hR
      have Hq := Lib.hid (putO_spec h1 r)
      have Hno := Lib.hid (fun h3 => putB_bad (l := l) (r := r) (.inr (.inr h3)))
      have Hyes := Lib.hid (fun h3 => putB_yes h1 h2 h3)
      have hqle : (withoutL l r.s r.e).length ≤ l.length := List.length_filter_le _ _
      clear h1 h2 h2'
      go_enter Try.func14, Try.ntmps14
      go_wp2_with fail
      refine hG.mono ?_
      rintro e w1 ⟨rfl, hb1⟩
      generalize (w.alloc (.cells #[.int .i64 r.s, .int .i64 r.e, .int .i64 r.d, .int .i64 r.a] 47)) = W0 at *
      replace hr0 : w1.cell? ⟨w.heap.size, 0, none⟩ = some (.int .i64 r.s) := (hb1.cell (p := ⟨w.heap.size, 0, none⟩) hs).trans hr0
      replace hr1 : w1.cell? ⟨w.heap.size, 1, none⟩ = some (.int .i64 r.e) := (hb1.cell (p := ⟨w.heap.size, 1, none⟩) hs).trans hr1
      replace hr2 : w1.cell? ⟨w.heap.size, 2, none⟩ = some (.int .i64 r.d) := (hb1.cell (p := ⟨w.heap.size, 2, none⟩) hs).trans hr2
      replace hr3 : w1.cell? ⟨w.heap.size, 3, none⟩ = some (.int .i64 r.a) := (hb1.cell (p := ⟨w.heap.size, 3, none⟩) hs).trans hr3
      replace hs := Nat.lt_of_lt_of_le hs hb1.size
      go_wp2_with fail
      refine (hR _).mono ?_
      rintro e w2 ⟨rfl, hb2⟩
      have hB2 := blw (blw hB hb1) hb2
      replace hr0 : w2.cell? ⟨w.heap.size, 0, none⟩ = some (.int .i64 r.s) := (hb2.cell (p := ⟨w.heap.size, 0, none⟩) hs).trans hr0
      replace hr1 : w2.cell? ⟨w.heap.size, 1, none⟩ = some (.int .i64 r.e) := (hb2.cell (p := ⟨w.heap.size, 1, none⟩) hs).trans hr1
      replace hr2 : w2.cell? ⟨w.heap.size, 2, none⟩ = some (.int .i64 r.d) := (hb2.cell (p := ⟨w.heap.size, 2, none⟩) hs).trans hr2
      replace hr3 : w2.cell? ⟨w.heap.size, 3, none⟩ = some (.int .i64 r.a) := (hb2.cell (p := ⟨w.heap.size, 3, none⟩) hs).trans hr3
      replace hs := Nat.lt_of_lt_of_le hs hb2.size
      go_wp2_with fail
      refine (l4Without_any A c l r.s r.e w2 ((hl.below hB2).more hB2.size) (by omega)).mono ?_
      rintro e w3 ⟨A3, c3, rfl, hv3, hb3⟩
      have hB3 := blw hB2 hb3
      have hw2 := hB2.size
      replace hr0 : w3.cell? ⟨w.heap.size, 0, none⟩ = some (.int .i64 r.s) := (hb3.cell (p := ⟨w.heap.size, 0, none⟩) hs).trans hr0
      replace hr1 : w3.cell? ⟨w.heap.size, 1, none⟩ = some (.int .i64 r.e) := (hb3.cell (p := ⟨w.heap.size, 1, none⟩) hs).trans hr1
      replace hr2 : w3.cell? ⟨w.heap.size, 2, none⟩ = some (.int .i64 r.d) := (hb3.cell (p := ⟨w.heap.size, 2, none⟩) hs).trans hr2
      replace hr3 : w3.cell? ⟨w.heap.size, 3, none⟩ = some (.int .i64 r.a) := (hb3.cell (p := ⟨w.heap.size, 3, none⟩) hs).trans hr3
      replace hs := Nat.lt_of_lt_of_le hs hb3.size
      generalize withoutL l r.s r.e = q at *
      have hql : (q.length : Int) ≤ 1048576 := by omega
      have hcq := hv3.capOk
      have hLq := hv3.ls encRule_len
      go_wp2_with fail
      go_loopw [7] (fun i wr => ∃ k : Nat, k ≤ q.length ∧ i = .int .i64 k ∧ Below w3.heap.size w3 wr ∧ Hid (∀ j (hj : j < q.length), j < k → bef4 q[j].s q[j].e r.s r.e = true)) (fun i _ => q.length - (intOf i).toNat)
      case atStart => exact ⟨0, Nat.zero_le _, rfl, Below.refl _ _, fun j _ hj => absurd hj (Nat.not_lt_zero _)⟩
      case round =>
        obtain ⟨k, hk, rfl, hb, HB⟩ := hrel
        have hBr := hB3.trans (hb.mono hB3.size)
        replace hr0 : wr.cell? ⟨w.heap.size, 0, none⟩ = some (.int .i64 r.s) := (hb.cell (p := ⟨w.heap.size, 0, none⟩) hs).trans hr0
        replace hr1 : wr.cell? ⟨w.heap.size, 1, none⟩ = some (.int .i64 r.e) := (hb.cell (p := ⟨w.heap.size, 1, none⟩) hs).trans hr1
        replace hr2 : wr.cell? ⟨w.heap.size, 2, none⟩ = some (.int .i64 r.d) := (hb.cell (p := ⟨w.heap.size, 2, none⟩) hs).trans hr2
        replace hr3 : wr.cell? ⟨w.heap.size, 3, none⟩ = some (.int .i64 r.a) := (hb.cell (p := ⟨w.heap.size, 3, none⟩) hs).trans hr3
        replace hs := Nat.lt_of_lt_of_le hs hb.size
        have hvr := hv3.on hb
        by_cases hlt : k < q.length
        · have hki : (k : Int) < (q.length : Int) := by omega
          obtain ⟨b, off, rfl, hbb, hc0, hc1, hc2, hc3⟩ := (hLq.below hb).at_Rule hlt
          have hszb := hb.size
          have hqb : b < wr.heap.size := by omega
          cases hbf : bef4 q[k].s q[k].e r.s r.e
          · have HP := Lib.hid (plcR_at k hk (fun j hj h => HB.out j hj h) (fun _ => hbf))
            have hL4 := fun W => l4Before_any q[k].s q[k].e q[k].d q[k].a r.s r.e r.d r.a W
            rw [hbf] at hL4
            clear hbf
            go_wp2_with fail
            refine wp_region_calm (by kernel_rfl) (by kernel_rfl) ?_
            repeat (go_big_quiet_step ((go_at_call 36; exact Calls.calm (hL4 _))))
            refine wpQuiet_nil ?_
            rintro w4 ⟨x4, hW4⟩
            have hb4 := x4.h
            rw [← hW4] at hb4
            clear hW4 x4
            have hB4 := blw hBr hb4
            replace hr0 : w4.cell? ⟨w.heap.size, 0, none⟩ = some (.int .i64 r.s) := (hb4.cell (p := ⟨w.heap.size, 0, none⟩) hs).trans hr0
            replace hr1 : w4.cell? ⟨w.heap.size, 1, none⟩ = some (.int .i64 r.e) := (hb4.cell (p := ⟨w.heap.size, 1, none⟩) hs).trans hr1
            replace hr2 : w4.cell? ⟨w.heap.size, 2, none⟩ = some (.int .i64 r.d) := (hb4.cell (p := ⟨w.heap.size, 2, none⟩) hs).trans hr2
            replace hr3 : w4.cell? ⟨w.heap.size, 3, none⟩ = some (.int .i64 r.a) := (hb4.cell (p := ⟨w.heap.size, 3, none⟩) hs).trans hr3
            replace hs := Nat.lt_of_lt_of_le hs hb4.size
            replace hvr := hvr.on hb4
            clear hc0 hc1 hc2 hc3 hG hR hL4
            have hld : (q.drop k).length = q.length - k := List.length_drop
            have hkc : k ≤ c3 := by omega
            have hkc2 : ¬ c3 = k := by omega
            have hLd : Ls w4 w4.heap.size encRule 4 (some ⟨b, off + k * 4, none⟩) (q.drop k) := Ls.drop_ ((hLq.below hb).below (hb4.mono hb.size) |>.more (Nat.le_trans hb.size hb4.size)) k (by omega)
            have hlk : (q.take k).length = k := by simp; try omega
            have hLt : Ls w4 w4.heap.size encRule 4 (some ⟨b, off, none⟩) (q.take k) := Ls.take_ ((hLq.below hb).below (hb4.mono hb.size) |>.more (Nat.le_trans hb.size hb4.size)) k
            have hl5 : (([] : List RuleD) ++ q.take k).length = k := by rw [List.nil_append]; exact hlk
            have hl6 : ((([] : List RuleD) ++ q.take k) ++ [r]).length = k + 1 := by rw [List.length_append, hl5]; rfl
            have hF1 : ([] : List RuleD).length + (q.take k).length ≤ maxLen := by rw [hlk]; unfold maxLen; simp; omega
            have hF2 : (([] : List RuleD).length + (q.take k).length) * 32 ≤ 140737488355328 := by rw [hlk]; simp; omega
            have hF3 : (([] : List RuleD) ++ q.take k).length + [r].length ≤ maxLen := by rw [List.nil_append, hlk]; unfold maxLen; simp; omega
            have hF4 : ((([] : List RuleD) ++ q.take k).length + [r].length) * 32 ≤ 140737488355328 := by rw [List.nil_append, hlk]; simp; omega
            have hF5 : ((([] : List RuleD) ++ q.take k) ++ [r]).length + (q.drop k).length ≤ maxLen := by rw [List.nil_append, List.length_append, hlk]; unfold maxLen; simp; omega
            have hF6 : (((([] : List RuleD) ++ q.take k) ++ [r]).length + (q.drop k).length) * 32 ≤ 140737488355328 := by rw [List.nil_append, List.length_append, hlk]; simp; omega
            have HO : Hid (((([] : List RuleD) ++ q.take k) ++ [r]) ++ (q.drop k) = putO l r) := by
              have h := Hq.out
              rw [HP.out] at h
              rw [Hid, ← h]; simp
            go_wp2_with fail
            go_region_law (first | (refine step_appG (base := w4.heap.size) rfl (.tmp 38) (.tmp 41) 43 rfl 47 (.agg #[.int .i64 0, .int .i64 0, .int .i64 0, .int .i64 0]) 4 32 Try.underlying43 (by kernel_rfl) rfl (by omega) encRule_len one_rule _ 0 ([] : List RuleD) rfl (Vec.empty_at (base := w4.heap.size) (by repeat (first | with_reducible refine Blk.drew ?_ | ((with_reducible refine Blk.new_at ?_); (first | rfl | focus (simp; done) | focus (simp; omega))) | with_reducible refine Blk.alloc ?_ _)) (by (first | exact Nat.le_refl _ | focus (simp; done) | focus (simp; omega) | focus omega))) (some ⟨b, off, none⟩) c3 w4.heap.size (q.take k) (by rw [hlk]; rfl) (hLt.below (by repeat (first | with_reducible exact (Below.refl _ _) | with_reducible refine Below.drew ?_ | ((with_reducible refine Below.alloc ?_ ?_ _); rotate_left; (first | exact Nat.le_refl _ | focus (simp; done) | focus (simp; omega) | focus omega))))) hF1 hF2 (by (first | exact Nat.le_refl _ | focus (simp; done) | focus (simp; omega) | focus omega)) ?_; intro A5 c5 w5 hv5 hw5; have H5 : Below w4.heap.size w4 w5 := (show Below w4.heap.size w4 _ from (by repeat (first | with_reducible exact (Below.refl _ _) | with_reducible refine Below.drew ?_ | ((with_reducible refine Below.alloc ?_ ?_ _); rotate_left; (first | exact Nat.le_refl _ | focus (simp; done) | focus (simp; omega) | focus omega))))).trans (hw5.below (by (first | exact Nat.le_refl _ | focus (simp; done) | focus (simp; omega) | focus omega)) (fun x hx => by obtain ⟨_, hx⟩ := hx; cases hx; first | exact Nat.le_refl _ | (simp; done) | (simp; omega) | omega)); have hz5 := H5.size; have hr0_w5 : w5.cell? ⟨w.heap.size, 0, none⟩ = some (.int .i64 r.s) := (H5.cell (p := ⟨w.heap.size, 0, none⟩) hs).trans hr0; have hr1_w5 : w5.cell? ⟨w.heap.size, 1, none⟩ = some (.int .i64 r.e) := (H5.cell (p := ⟨w.heap.size, 1, none⟩) hs).trans hr1; have hr2_w5 : w5.cell? ⟨w.heap.size, 2, none⟩ = some (.int .i64 r.d) := (H5.cell (p := ⟨w.heap.size, 2, none⟩) hs).trans hr2; have hr3_w5 : w5.cell? ⟨w.heap.size, 3, none⟩ = some (.int .i64 r.a) := (H5.cell (p := ⟨w.heap.size, 3, none⟩) hs).trans hr3) | (refine step_appG (base := w4.heap.size) rfl (.tmp 42) (.tmp 44) 43 rfl 47 (.agg #[.int .i64 0, .int .i64 0, .int .i64 0, .int .i64 0]) 4 32 Try.underlying43 (by kernel_rfl) rfl (by omega) encRule_len one_rule A5 c5 (([] : List RuleD) ++ (q.take k)) (by rw [hl5]; rfl) (by repeat (first | with_reducible exact hv5 | with_reducible apply Vec.drew | with_reducible apply Vec.alloc)) _ 1 _ [r] rfl (Ls.blkc (t := 47) (cs := #[.int .i64 r.s, .int .i64 r.e, .int .i64 r.d, .int .i64 r.a]) (by repeat (first | ((with_reducible refine Blk.wr ?_ hw5 ?_); rotate_left; focus (intro hx; obtain ⟨_, hx⟩ := hx; simp at hx)) | with_reducible refine Blk.drew ?_ | ((with_reducible refine Blk.new_at ?_); (first | rfl | focus (simp; done) | focus (simp; omega))) | with_reducible refine Blk.alloc ?_ _)) rfl) hF3 hF4 (by (first | exact Nat.le_refl _ | focus (simp; done) | focus (simp; omega) | focus omega)) ?_; intro A6 c6 w6 hv6 hw6; have H6 : Below w4.heap.size w4 w6 := (show Below w4.heap.size w4 _ from (by repeat (first | with_reducible exact H5 | with_reducible refine Below.drew ?_ | ((with_reducible refine Below.alloc ?_ ?_ _); rotate_left; (first | exact Nat.le_refl _ | focus (simp; done) | focus (simp; omega) | focus omega))))).trans (hw6.below (by (first | exact Nat.le_refl _ | focus (simp; done) | focus (simp; omega) | focus omega)) (fun x hx => (hv5.block hx).1)); have hz6 := H6.size) | (refine step_appG (base := w4.heap.size) rfl (.tmp 45) (.tmp 48) 43 rfl 47 (.agg #[.int .i64 0, .int .i64 0, .int .i64 0, .int .i64 0]) 4 32 Try.underlying43 (by kernel_rfl) rfl (by omega) encRule_len one_rule A6 c6 ((([] : List RuleD) ++ (q.take k)) ++ [r]) (by rw [hl6]; rfl) (by repeat (first | with_reducible exact hv6 | with_reducible apply Vec.drew | with_reducible apply Vec.alloc)) (some ⟨b, off + k * 4, none⟩) (c3 - k) w4.heap.size (q.drop k) (by rw [hld]; rfl) (hLd.below (by repeat (first | with_reducible exact H6 | with_reducible refine Below.drew ?_ | ((with_reducible refine Below.alloc ?_ ?_ _); rotate_left; (first | exact Nat.le_refl _ | focus (simp; done) | focus (simp; omega) | focus omega))))) hF5 hF6 (by (first | exact Nat.le_refl _ | focus (simp; done) | focus (simp; omega) | focus omega)) ?_; intro A7 c7 w7 hv7 hw7; have H7 : Below w4.heap.size w4 w7 := (show Below w4.heap.size w4 _ from (by repeat (first | with_reducible exact H6 | with_reducible refine Below.drew ?_ | ((with_reducible refine Below.alloc ?_ ?_ _); rotate_left; (first | exact Nat.le_refl _ | focus (simp; done) | focus (simp; omega) | focus omega))))).trans (hw7.below (by (first | exact Nat.le_refl _ | focus (simp; done) | focus (simp; omega) | focus omega)) (fun x hx => (hv6.block hx).1))))
            all_goals
              have HB7 := Lib.hid (blw hB4 H7)
              have HV7 := Lib.hid (hv7.mono hB4.size)
              have HN7 := Lib.hid (show (((([] : List RuleD) ++ q.take k) ++ [r]) ++ (q.drop k)).length = q.length + 1 by rw [List.length_append, hl6]; rw [hld]; omega)
              have HE7 : Hid (∀ m, m = q.length + 1 → Ending.returned (.tuple #[.slice A7 m c7, .bool true]) = .returned (.tuple #[.slice A7 (putO l r).length c7, .bool true])) := fun m hm => by rw [hm, ← HO.out, HN7.out]
              clear hw5 hw6 hw7 hv5 hv6 H5 H6 H7
              go_wp2_with fail
              all_goals
                refine (l4Good_n A7 c7 _ (((([] : List RuleD) ++ q.take k) ++ [r]) ++ (q.drop k)) w7 (by rw [HN7.out]; try omega) (HV7.out.ls encRule_len) (by rw [HN7.out]; omega)).mono ?_
                rw [HO.out]
                rcases Bool.eq_false_or_eq_true (schedB (putO l r)) with ho | ho
                · rw [ho]
                  rintro e w8 ⟨rfl, hb8⟩
                  have Hv := Lib.hid (Hyes.out ho)
                  clear ho
                  go_wp2_with fail
                  go_ret2
                  exact ⟨A7, c7, by rw [Hv.out.1, Hv.out.2]; exact HE7.out _ (by omega), by rw [Hv.out.2, ← HO.out]; exact HV7.out.on hb8, blw HB7.out hb8⟩
                · rw [ho]
                  rintro e w8 ⟨rfl, hb8⟩
                  have Hv := Lib.hid (Hno.out ho)
                  clear ho
                  go_wp2_with fail
                  go_ret2
                  exact ⟨_, 0, by rw [Hv.out.1, Hv.out.2]; rfl, by rw [Hv.out.2]; exact Vec.empty _ _ _ (blw HB7.out hb8).size, blw_alloc (blw HB7.out hb8) _⟩
          · have hL4 := fun W => l4Before_any q[k].s q[k].e q[k].d q[k].a r.s r.e r.d r.a W
            have Hbf := Lib.hid hbf
            rw [hbf] at hL4
            clear hbf
            go_wp2_with fail
            refine wp_region_calm (by kernel_rfl) (by kernel_rfl) ?_
            repeat (go_big_quiet_step ((go_at_call 36; exact Calls.calm (hL4 _))))
            refine wpQuiet_nil ?_
            rintro _ ⟨⟨w4, hb4⟩, rfl⟩
            go_wp2_with fail
            go_roundw
            case rel => exact ⟨k + 1, by omega, by go_num, blw hb hb4, fun j hj h => by rcases Nat.lt_succ_iff_lt_or_eq.1 h with h | rfl; exact HB.out j hj h; exact Hbf.out⟩
            case measure => simp [intOf]; omega
        · have hkk : k = q.length := by omega
          subst hkk
          have HP := Lib.hid (plcR_at q.length hk (fun j hj h => HB.out j hj h) (fun h => absurd h (Nat.lt_irrefl _)))
          have hki : ¬ (q.length : Int) < (q.length : Int) := by omega
          go_wp2_with fail
          refine wp_region_calm (by kernel_rfl) (by kernel_rfl) ?_
          repeat (go_big_quiet_step (fail))
          refine wpQuiet_nil ?_
          rintro w4 ⟨x4, hW4⟩
          have hb4 := x4.h
          rw [← hW4] at hb4
          clear hW4 x4
          have hB4 := blw hBr hb4
          replace hr0 : w4.cell? ⟨w.heap.size, 0, none⟩ = some (.int .i64 r.s) := (hb4.cell (p := ⟨w.heap.size, 0, none⟩) hs).trans hr0
          replace hr1 : w4.cell? ⟨w.heap.size, 1, none⟩ = some (.int .i64 r.e) := (hb4.cell (p := ⟨w.heap.size, 1, none⟩) hs).trans hr1
          replace hr2 : w4.cell? ⟨w.heap.size, 2, none⟩ = some (.int .i64 r.d) := (hb4.cell (p := ⟨w.heap.size, 2, none⟩) hs).trans hr2
          replace hr3 : w4.cell? ⟨w.heap.size, 3, none⟩ = some (.int .i64 r.a) := (hb4.cell (p := ⟨w.heap.size, 3, none⟩) hs).trans hr3
          replace hs := Nat.lt_of_lt_of_le hs hb4.size
          replace hvr := hvr.on hb4
          clear hG hR
          have hlk : (q.take q.length).length = q.length := by simp; try omega
          have hLt : Ls w4 w4.heap.size encRule 4 A3 (q.take q.length) := Ls.take_ ((hLq.below hb).below (hb4.mono hb.size) |>.more (Nat.le_trans hb.size hb4.size)) q.length
          have hl5 : (([] : List RuleD) ++ q.take q.length).length = q.length := by rw [List.nil_append]; exact hlk
          have hl6 : ((([] : List RuleD) ++ q.take q.length) ++ [r]).length = q.length + 1 := by rw [List.length_append, hl5]; rfl
          have hF1 : ([] : List RuleD).length + (q.take q.length).length ≤ maxLen := by rw [hlk]; unfold maxLen; simp; omega
          have hF2 : (([] : List RuleD).length + (q.take q.length).length) * 32 ≤ 140737488355328 := by rw [hlk]; simp; omega
          have hF3 : (([] : List RuleD) ++ q.take q.length).length + [r].length ≤ maxLen := by rw [List.nil_append, hlk]; unfold maxLen; simp; omega
          have hF4 : ((([] : List RuleD) ++ q.take q.length).length + [r].length) * 32 ≤ 140737488355328 := by rw [List.nil_append, hlk]; simp; omega
          have hF5 : ((([] : List RuleD) ++ q.take q.length) ++ [r]).length + ([] : List RuleD).length ≤ maxLen := by rw [List.nil_append, List.length_append, hlk]; unfold maxLen; simp; omega
          have hF6 : (((([] : List RuleD) ++ q.take q.length) ++ [r]).length + ([] : List RuleD).length) * 32 ≤ 140737488355328 := by rw [List.nil_append, List.length_append, hlk]; simp; omega
          have HO : Hid (((([] : List RuleD) ++ q.take q.length) ++ [r]) ++ ([] : List RuleD) = putO l r) := by
            have h := Hq.out
            rw [HP.out] at h
            rw [Hid, ← h]; simp
          go_wp2_with fail
          go_region_law (first | (refine step_appG (base := w4.heap.size) rfl (.tmp 38) (.tmp 41) 43 rfl 47 (.agg #[.int .i64 0, .int .i64 0, .int .i64 0, .int .i64 0]) 4 32 Try.underlying43 (by kernel_rfl) rfl (by omega) encRule_len one_rule _ 0 ([] : List RuleD) rfl (Vec.empty_at (base := w4.heap.size) (by repeat (first | with_reducible refine Blk.drew ?_ | ((with_reducible refine Blk.new_at ?_); (first | rfl | focus (simp; done) | focus (simp; omega))) | with_reducible refine Blk.alloc ?_ _)) (by (first | exact Nat.le_refl _ | focus (simp; done) | focus (simp; omega) | focus omega))) A3 c3 w4.heap.size (q.take q.length) (by rw [hlk]; rfl) (hLt.below (by repeat (first | with_reducible exact (Below.refl _ _) | with_reducible refine Below.drew ?_ | ((with_reducible refine Below.alloc ?_ ?_ _); rotate_left; (first | exact Nat.le_refl _ | focus (simp; done) | focus (simp; omega) | focus omega))))) hF1 hF2 (by (first | exact Nat.le_refl _ | focus (simp; done) | focus (simp; omega) | focus omega)) ?_; intro A5 c5 w5 hv5 hw5; have H5 : Below w4.heap.size w4 w5 := (show Below w4.heap.size w4 _ from (by repeat (first | with_reducible exact (Below.refl _ _) | with_reducible refine Below.drew ?_ | ((with_reducible refine Below.alloc ?_ ?_ _); rotate_left; (first | exact Nat.le_refl _ | focus (simp; done) | focus (simp; omega) | focus omega))))).trans (hw5.below (by (first | exact Nat.le_refl _ | focus (simp; done) | focus (simp; omega) | focus omega)) (fun x hx => by obtain ⟨_, hx⟩ := hx; cases hx; first | exact Nat.le_refl _ | (simp; done) | (simp; omega) | omega)); have hz5 := H5.size; have hr0_w5 : w5.cell? ⟨w.heap.size, 0, none⟩ = some (.int .i64 r.s) := (H5.cell (p := ⟨w.heap.size, 0, none⟩) hs).trans hr0; have hr1_w5 : w5.cell? ⟨w.heap.size, 1, none⟩ = some (.int .i64 r.e) := (H5.cell (p := ⟨w.heap.size, 1, none⟩) hs).trans hr1; have hr2_w5 : w5.cell? ⟨w.heap.size, 2, none⟩ = some (.int .i64 r.d) := (H5.cell (p := ⟨w.heap.size, 2, none⟩) hs).trans hr2; have hr3_w5 : w5.cell? ⟨w.heap.size, 3, none⟩ = some (.int .i64 r.a) := (H5.cell (p := ⟨w.heap.size, 3, none⟩) hs).trans hr3) | (refine step_appG (base := w4.heap.size) rfl (.tmp 42) (.tmp 44) 43 rfl 47 (.agg #[.int .i64 0, .int .i64 0, .int .i64 0, .int .i64 0]) 4 32 Try.underlying43 (by kernel_rfl) rfl (by omega) encRule_len one_rule A5 c5 (([] : List RuleD) ++ (q.take q.length)) (by rw [hl5]; rfl) (by repeat (first | with_reducible exact hv5 | with_reducible apply Vec.drew | with_reducible apply Vec.alloc)) _ 1 _ [r] rfl (Ls.blkc (t := 47) (cs := #[.int .i64 r.s, .int .i64 r.e, .int .i64 r.d, .int .i64 r.a]) (by repeat (first | ((with_reducible refine Blk.wr ?_ hw5 ?_); rotate_left; focus (intro hx; obtain ⟨_, hx⟩ := hx; simp at hx)) | with_reducible refine Blk.drew ?_ | ((with_reducible refine Blk.new_at ?_); (first | rfl | focus (simp; done) | focus (simp; omega))) | with_reducible refine Blk.alloc ?_ _)) rfl) hF3 hF4 (by (first | exact Nat.le_refl _ | focus (simp; done) | focus (simp; omega) | focus omega)) ?_; intro A6 c6 w6 hv6 hw6; have H6 : Below w4.heap.size w4 w6 := (show Below w4.heap.size w4 _ from (by repeat (first | with_reducible exact H5 | with_reducible refine Below.drew ?_ | ((with_reducible refine Below.alloc ?_ ?_ _); rotate_left; (first | exact Nat.le_refl _ | focus (simp; done) | focus (simp; omega) | focus omega))))).trans (hw6.below (by (first | exact Nat.le_refl _ | focus (simp; done) | focus (simp; omega) | focus omega)) (fun x hx => (hv5.block hx).1)); have hz6 := H6.size) | (refine step_appG (base := w4.heap.size) rfl (.tmp 45) (.tmp 48) 43 rfl 47 (.agg #[.int .i64 0, .int .i64 0, .int .i64 0, .int .i64 0]) 4 32 Try.underlying43 (by kernel_rfl) rfl (by omega) encRule_len one_rule A6 c6 ((([] : List RuleD) ++ (q.take q.length)) ++ [r]) (by rw [hl6]; rfl) (by repeat (first | with_reducible exact hv6 | with_reducible apply Vec.drew | with_reducible apply Vec.alloc)) _ _ w4.heap.size ([] : List RuleD) rfl ((Ls.none_ (A := _)).below (by repeat (first | with_reducible exact H6 | with_reducible refine Below.drew ?_ | ((with_reducible refine Below.alloc ?_ ?_ _); rotate_left; (first | exact Nat.le_refl _ | focus (simp; done) | focus (simp; omega) | focus omega))))) hF5 hF6 (by (first | exact Nat.le_refl _ | focus (simp; done) | focus (simp; omega) | focus omega)) ?_; intro A7 c7 w7 hv7 hw7; have H7 : Below w4.heap.size w4 w7 := (show Below w4.heap.size w4 _ from (by repeat (first | with_reducible exact H6 | with_reducible refine Below.drew ?_ | ((with_reducible refine Below.alloc ?_ ?_ _); rotate_left; (first | exact Nat.le_refl _ | focus (simp; done) | focus (simp; omega) | focus omega))))).trans (hw7.below (by (first | exact Nat.le_refl _ | focus (simp; done) | focus (simp; omega) | focus omega)) (fun x hx => (hv6.block hx).1))))
          all_goals
            have HB7 := Lib.hid (blw hB4 H7)
            have HV7 := Lib.hid (hv7.mono hB4.size)
            have HN7 := Lib.hid (show (((([] : List RuleD) ++ q.take q.length) ++ [r]) ++ ([] : List RuleD)).length = q.length + 1 by rw [List.length_append, hl6]; rfl)
            have HE7 : Hid (∀ m, m = q.length + 1 → Ending.returned (.tuple #[.slice A7 m c7, .bool true]) = .returned (.tuple #[.slice A7 (putO l r).length c7, .bool true])) := fun m hm => by rw [hm, ← HO.out, HN7.out]
            clear hw5 hw6 hw7 hv5 hv6 H5 H6 H7
            go_wp2_with fail
            all_goals
              refine (l4Good_n A7 c7 _ (((([] : List RuleD) ++ q.take q.length) ++ [r]) ++ ([] : List RuleD)) w7 (by rw [HN7.out]; try omega) (HV7.out.ls encRule_len) (by rw [HN7.out]; omega)).mono ?_
              rw [HO.out]
              rcases Bool.eq_false_or_eq_true (schedB (putO l r)) with ho | ho
              · rw [ho]
                rintro e w8 ⟨rfl, hb8⟩
                have Hv := Lib.hid (Hyes.out ho)
                clear ho
                go_wp2_with fail
                go_ret2
                exact ⟨A7, c7, by rw [Hv.out.1, Hv.out.2]; exact HE7.out _ (by omega), by rw [Hv.out.2, ← HO.out]; exact HV7.out.on hb8, blw HB7.out hb8⟩
              · rw [ho]
                rintro e w8 ⟨rfl, hb8⟩
                have Hv := Lib.hid (Hno.out ho)
                clear ho
                go_wp2_with fail
                go_ret2
                exact ⟨_, 0, by rw [Hv.out.1, Hv.out.2]; rfl, by rw [Hv.out.2]; exact Vec.empty _ _ _ (blw HB7.out hb8).size, blw_alloc (blw HB7.out hb8) _⟩

theorem putL_le8 (l : List RuleD) (r : RuleD) : (putL l r).length ≤ 8 := by
  unfold putL
  split
  · next h =>
    have h3 : schedB (putO l r) = true := by
      unfold putB at h
      simp only [Bool.and_eq_true] at h
      exact h.2
    simp [schedB] at h3
    exact h3.2
  · simp
theorem c4_spec_PutRule (A : Option Addr) (c : Nat) (l : List RuleD) (s e d a : Int) (w : World) (hl : Ls w w.heap.size encRule 4 A l) (hm : l.length ≤ 1048576) :
    Calls Try.prog 14 #[.slice A l.length c, .agg #[.int .i64 s, .int .i64 e, .int .i64 d, .int .i64 a]] w (RetSB w 47 encRule 4 (putL l ⟨s, e, d, a⟩) (putB l ⟨s, e, d, a⟩)) := c_spec_PutRule A c l ⟨s, e, d, a⟩ w hl hm
theorem c4_impl_PutRule (A : Option Addr) (c : Nat) (l : List RuleD) (s e d a : Int) (w : World) (hl : Ls w w.heap.size encRule 4 A l) (hm : l.length ≤ 1048576) :
    Calls Try.prog 17 #[.slice A l.length c, .agg #[.int .i64 s, .int .i64 e, .int .i64 d, .int .i64 a]] w (RetSB w 47 encRule 4 (putL l ⟨s, e, d, a⟩) (putB l ⟨s, e, d, a⟩)) := c_impl_PutRule A c l ⟨s, e, d, a⟩ w hl hm

end Go.Proofs.Ytnohonedfeacdaa
