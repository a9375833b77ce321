/- Contracts: PutRule. -/
import Derived.Test.YtnohonedfeacdaaW4p
import Derived.Test.YtnohonedfeacdaaSi
import Derived.Test.YtnohonedfeacdaaW4e
namespace Go.Proofs.Ytnohonedfeacdaa
set_option linter.unusedVariables false
set_option linter.unusedSimpArgs false
open Go.RowKit
attribute [local go_sem] Aft.cell

theorem putB_bad {l : List RuleD} {r : RuleD} (h : schedB l = false ∨ rulB r = false ∨ schedB (putO l r) = false) : putB l r = false ∧ putL l r = [] := by
  have h1 : putB l r = false := by
    unfold putB
    rcases h with h | h | h <;> simp [h]
  exact ⟨h1, by simp [putL, h1]⟩
theorem putB_yes {l : List RuleD} {r : RuleD} (h1 : schedB l = true) (h2 : rulB r = true) (h3 : schedB (putO l r) = true) : putB l r = true ∧ putL l r = putO l r := by
  have h : putB l r = true := by simp [putB, h1, h2, h3]
  exact ⟨h, by simp [putL, h]⟩
theorem IsSchedule_n (A : Option Addr) (c n : Nat) (l : List RuleD) (w : World) (hn : l.length = n) (hl : Ls w w.heap.size encRule 4 A l) (hm : l.length ≤ 9223372036854775807) :
    Calls Try.prog 37 #[.slice A n c] w fun e w' => e = .returned (.bool (schedB l)) ∧ Below w.heap.size w w' := by
  subst hn
  exact IsSchedule_any A c l w hl hm
theorem l4Good_n (A : Option Addr) (c n : Nat) (l : List RuleD) (w : World) (hn : l.length = n) (hl : Ls w w.heap.size encRule 4 A l) (hm : l.length ≤ 9223372036854775807) :
    Calls Try.prog 33 #[.slice A n c] w fun e w' => e = .returned (.bool (schedB l)) ∧ Below w.heap.size w w' := by
  subst hn
  exact l4Good_any A c l w hl hm
/-- A whole rule written. -/
theorem Std.putRule {l : List RuleD} {f : Nat → Value} (h : Std encRule 4 l f) (i : Nat) (x : RuleD) : Std encRule 4 (l.set i x) (upd (upd (upd (upd f (i * 4) (.int .i64 x.s)) (i * 4 + 1) (.int .i64 x.e)) (i * 4 + 2) (.int .i64 x.d)) (i * 4 + 3) (.int .i64 x.a)) :=
  h.set encRule_len i x (fun j u hu => by
    have hj : j < 4 := by have hq := (List.getElem?_eq_some_iff.1 hu).1; rwa [encRule_len] at hq
    match j, hj, hu with
    | 0, _, hu => simp [encRule] at hu; subst hu; simp [upd]
    | 1, _, hu => simp [encRule] at hu; subst hu; simp [upd]
    | 2, _, hu => simp [encRule] at hu; subst hu; simp [upd]
    | 3, _, hu => simp [encRule] at hu; subst hu; simp [upd]) (fun m hm => by rw [upd_other (by omega), upd_other (by omega), upd_other (by omega), upd_other (by omega)])

set_option maxHeartbeats 4000000 in
theorem c_impl_PutRule (A : Option Addr) (c : Nat) (l : List RuleD) (r : RuleD) (w : World) (hl : Ls w w.heap.size encRule 4 A l) (hm : l.length ≤ 1048576) :
    Calls Try.prog 17 #[.slice A l.length c, .agg #[.int .i64 r.s, .int .i64 r.e, .int .i64 r.d, .int .i64 r.a]] w (RetSB w 47 encRule 4 (putL l r) (putB l r)) := by
  have hlen : (l.length : Int) ≤ 1048576 := by omega
  have hB := blw_alloc (Below.refl w.heap.size w) (.cells #[.int .i64 r.s, .int .i64 r.e, .int .i64 r.d, .int .i64 r.a] 47)
  have hl0 := (hl.below hB).more hB.size
  have hr0 : (w.alloc (.cells #[.int .i64 r.s, .int .i64 r.e, .int .i64 r.d, .int .i64 r.a] 47)).cell? ⟨w.heap.size, 0, none⟩ = some (.int .i64 r.s) := by simp
  have hr1 : (w.alloc (.cells #[.int .i64 r.s, .int .i64 r.e, .int .i64 r.d, .int .i64 r.a] 47)).cell? ⟨w.heap.size, 1, none⟩ = some (.int .i64 r.e) := by simp
  have hr2 : (w.alloc (.cells #[.int .i64 r.s, .int .i64 r.e, .int .i64 r.d, .int .i64 r.a] 47)).cell? ⟨w.heap.size, 2, none⟩ = some (.int .i64 r.d) := by simp
  have hr3 : (w.alloc (.cells #[.int .i64 r.s, .int .i64 r.e, .int .i64 r.d, .int .i64 r.a] 47)).cell? ⟨w.heap.size, 3, none⟩ = some (.int .i64 r.a) := by simp
  have hs : w.heap.size < (w.alloc (.cells #[.int .i64 r.s, .int .i64 r.e, .int .i64 r.d, .int .i64 r.a] 47)).heap.size := by simp
  have hG := IsSchedule_any A c l (w.alloc (.cells #[.int .i64 r.s, .int .i64 r.e, .int .i64 r.d, .int .i64 r.a] 47)) hl0 (by omega)
  cases h1 : schedB l
  · rw [h1] at hG
    have Hv := Lib.hid (putB_bad (r := r) (.inl h1))
    clear h1
    go_enter Try.func17, Try.ntmps17
    go_wp2_with fail
    refine hG.mono ?_
    rintro e w1 ⟨rfl, hb1⟩
    go_wp2_with fail
    go_ret2
    exact ⟨none, 0, by rw [Hv.out.1, Hv.out.2]; rfl, by rw [Hv.out.2]; exact Vec.nil, blw hB hb1⟩
  · rw [h1] at hG
    have hR := fun W => IsRule_any r.s r.e r.d r.a W
    cases h2 : rulB r
    · have h2' : ruleB r.s r.e r.d r.a = false := h2
      rw [h2'] at hR
      have Hv := Lib.hid (putB_bad (l := l) (.inr (.inl h2)))
      clear h1 h2 h2'
      go_enter Try.func17, Try.ntmps17
      go_wp2_with fail
      refine hG.mono ?_
      rintro e w1 ⟨rfl, hb1⟩
      generalize (w.alloc (.cells #[.int .i64 r.s, .int .i64 r.e, .int .i64 r.d, .int .i64 r.a] 47)) = W0 at *
      replace hr0 : w1.cell? ⟨w.heap.size, 0, none⟩ = some (.int .i64 r.s) := (hb1.cell (p := ⟨w.heap.size, 0, none⟩) hs).trans hr0
      replace hr1 : w1.cell? ⟨w.heap.size, 1, none⟩ = some (.int .i64 r.e) := (hb1.cell (p := ⟨w.heap.size, 1, none⟩) hs).trans hr1
      replace hr2 : w1.cell? ⟨w.heap.size, 2, none⟩ = some (.int .i64 r.d) := (hb1.cell (p := ⟨w.heap.size, 2, none⟩) hs).trans hr2
      replace hr3 : w1.cell? ⟨w.heap.size, 3, none⟩ = some (.int .i64 r.a) := (hb1.cell (p := ⟨w.heap.size, 3, none⟩) hs).trans hr3
      replace hs := Nat.lt_of_lt_of_le hs hb1.size
      go_wp2_with fail
      refine (hR _).mono ?_
      rintro e w2 ⟨rfl, hb2⟩
      go_wp2_with fail
      go_ret2
      exact ⟨none, 0, by rw [Hv.out.1, Hv.out.2]; rfl, by rw [Hv.out.2]; exact Vec.nil, blw (blw hB hb1) hb2⟩
    · have h2' : ruleB r.s r.e r.d r.a = true := h2
      rw [h2'] at hR
      have hpl := plcR_le l r.s r.e
      have hpo := putO_len l r
      cases hf : foundB l r.s r.e
      · have Hf := Lib.hid hf
        have Ho := Lib.hid (show putO l r = l.take (plcR l r.s r.e) ++ r :: l.drop (plcR l r.s r.e) by rw [putO, hf]; rfl)
        have Hlen := Lib.hid (show (l.take (plcR l r.s r.e) ++ r :: l.drop (plcR l r.s r.e)).length = l.length + 1 by simp; omega)
        cases ho : schedB (putO l r)
        · have Hk := Lib.hid ho
          have Hv := Lib.hid (putB_bad (l := l) (r := r) (.inr (.inr ho)))
          have H1 := Lib.hid h1
          clear h1 h2 h2' hf ho
          go_enter Try.func17, Try.ntmps17
          go_wp2_with fail
          refine hG.mono ?_
          rintro e w1 ⟨rfl, hb1⟩
          generalize (w.alloc (.cells #[.int .i64 r.s, .int .i64 r.e, .int .i64 r.d, .int .i64 r.a] 47)) = W0 at *
          replace hr0 : w1.cell? ⟨w.heap.size, 0, none⟩ = some (.int .i64 r.s) := (hb1.cell (p := ⟨w.heap.size, 0, none⟩) hs).trans hr0
          replace hr1 : w1.cell? ⟨w.heap.size, 1, none⟩ = some (.int .i64 r.e) := (hb1.cell (p := ⟨w.heap.size, 1, none⟩) hs).trans hr1
          replace hr2 : w1.cell? ⟨w.heap.size, 2, none⟩ = some (.int .i64 r.d) := (hb1.cell (p := ⟨w.heap.size, 2, none⟩) hs).trans hr2
          replace hr3 : w1.cell? ⟨w.heap.size, 3, none⟩ = some (.int .i64 r.a) := (hb1.cell (p := ⟨w.heap.size, 3, none⟩) hs).trans hr3
          replace hs := Nat.lt_of_lt_of_le hs hb1.size
          go_wp2_with fail
          refine (hR _).mono ?_
          rintro e w2 ⟨rfl, hb2⟩
          have hB2 := blw (blw hB hb1) hb2
          replace hr0 : w2.cell? ⟨w.heap.size, 0, none⟩ = some (.int .i64 r.s) := (hb2.cell (p := ⟨w.heap.size, 0, none⟩) hs).trans hr0
          replace hr1 : w2.cell? ⟨w.heap.size, 1, none⟩ = some (.int .i64 r.e) := (hb2.cell (p := ⟨w.heap.size, 1, none⟩) hs).trans hr1
          replace hr2 : w2.cell? ⟨w.heap.size, 2, none⟩ = some (.int .i64 r.d) := (hb2.cell (p := ⟨w.heap.size, 2, none⟩) hs).trans hr2
          replace hr3 : w2.cell? ⟨w.heap.size, 3, none⟩ = some (.int .i64 r.a) := (hb2.cell (p := ⟨w.heap.size, 3, none⟩) hs).trans hr3
          replace hs := Nat.lt_of_lt_of_le hs hb2.size
          go_wp2_with fail
          refine (Clone_Rule A c l w2 ((hl.below hB2).more hB2.size) (by omega)).mono ?_
          rintro e w3 ⟨A3, c3, rfl, hv3, hb3⟩
          have hB3 := blw hB2 hb3
          replace hr0 : w3.cell? ⟨w.heap.size, 0, none⟩ = some (.int .i64 r.s) := (hb3.cell (p := ⟨w.heap.size, 0, none⟩) hs).trans hr0
          replace hr1 : w3.cell? ⟨w.heap.size, 1, none⟩ = some (.int .i64 r.e) := (hb3.cell (p := ⟨w.heap.size, 1, none⟩) hs).trans hr1
          replace hr2 : w3.cell? ⟨w.heap.size, 2, none⟩ = some (.int .i64 r.d) := (hb3.cell (p := ⟨w.heap.size, 2, none⟩) hs).trans hr2
          replace hr3 : w3.cell? ⟨w.heap.size, 3, none⟩ = some (.int .i64 r.a) := (hb3.cell (p := ⟨w.heap.size, 3, none⟩) hs).trans hr3
          replace hs := Nat.lt_of_lt_of_le hs hb3.size
          go_wp2_with fail
          refine (BSearch_Rule A3 c3 l r w3 (hv3.ls encRule_len) (by omega) H1.out).mono ?_
          rw [Hf.out]
          rintro e w4 ⟨rfl, hb4⟩
          have hB4 := blw hB3 hb4
          replace hv3 := hv3.on hb4
          replace hr0 : w4.cell? ⟨w.heap.size, 0, none⟩ = some (.int .i64 r.s) := (hb4.cell (p := ⟨w.heap.size, 0, none⟩) hs).trans hr0
          replace hr1 : w4.cell? ⟨w.heap.size, 1, none⟩ = some (.int .i64 r.e) := (hb4.cell (p := ⟨w.heap.size, 1, none⟩) hs).trans hr1
          replace hr2 : w4.cell? ⟨w.heap.size, 2, none⟩ = some (.int .i64 r.d) := (hb4.cell (p := ⟨w.heap.size, 2, none⟩) hs).trans hr2
          replace hr3 : w4.cell? ⟨w.heap.size, 3, none⟩ = some (.int .i64 r.a) := (hb4.cell (p := ⟨w.heap.size, 3, none⟩) hs).trans hr3
          replace hs := Nat.lt_of_lt_of_le hs hb4.size
          have hw2 := hB2.size
          have hpi2 : (plcR l r.s r.e : Int) ≤ (l.length : Int) := by omega
          go_wp2_with fail
          refine (Insert_Rule A3 c3 w2.heap.size w4.heap.size (plcR l r.s r.e) l r (w4.alloc (.cells #[.int .i64 r.s, .int .i64 r.e, .int .i64 r.d, .int .i64 r.a] 47)) (hv3.alloc _) (Blk.new w4 47 _) (fun h => by have := (hv3.block h).2; omega) (by omega) hpl (by have h7 := hb3.size; have h8 := hb4.size; simp; omega)).mono ?_
          rintro e w5 ⟨A5, c5, rfl, hv5, hw5⟩
          have HB5 := Lib.hid ((blw_alloc hB4 (.cells #[.int .i64 r.s, .int .i64 r.e, .int .i64 r.d, .int .i64 r.a] 47)).trans (hw5.below (by have h9 := hB4.size; simp; omega) (fun q hq => by have := (hv3.block hq).1; omega)))
          have hz5 := hw5.size
          clear hw5
          go_wp2_with fail
          refine (IsSchedule_n A5 c5 _ (l.take (plcR l r.s r.e) ++ r :: l.drop (plcR l r.s r.e)) _ Hlen.out (hv5.ls encRule_len) (by rw [Hlen.out]; omega)).mono ?_
          rw [← Ho.out, Hk.out]
          rintro e w6 ⟨rfl, hb6⟩
          go_wp2_with fail
          go_ret2
          exact ⟨none, 0, by rw [Hv.out.1, Hv.out.2]; rfl, by rw [Hv.out.2]; exact Vec.nil, blw HB5.out hb6⟩
        · have Hk := Lib.hid ho
          have Hv := Lib.hid (putB_yes h1 h2 ho)
          have H1 := Lib.hid h1
          clear h1 h2 h2' hf ho
          go_enter Try.func17, Try.ntmps17
          go_wp2_with fail
          refine hG.mono ?_
          rintro e w1 ⟨rfl, hb1⟩
          generalize (w.alloc (.cells #[.int .i64 r.s, .int .i64 r.e, .int .i64 r.d, .int .i64 r.a] 47)) = W0 at *
          replace hr0 : w1.cell? ⟨w.heap.size, 0, none⟩ = some (.int .i64 r.s) := (hb1.cell (p := ⟨w.heap.size, 0, none⟩) hs).trans hr0
          replace hr1 : w1.cell? ⟨w.heap.size, 1, none⟩ = some (.int .i64 r.e) := (hb1.cell (p := ⟨w.heap.size, 1, none⟩) hs).trans hr1
          replace hr2 : w1.cell? ⟨w.heap.size, 2, none⟩ = some (.int .i64 r.d) := (hb1.cell (p := ⟨w.heap.size, 2, none⟩) hs).trans hr2
          replace hr3 : w1.cell? ⟨w.heap.size, 3, none⟩ = some (.int .i64 r.a) := (hb1.cell (p := ⟨w.heap.size, 3, none⟩) hs).trans hr3
          replace hs := Nat.lt_of_lt_of_le hs hb1.size
          go_wp2_with fail
          refine (hR _).mono ?_
          rintro e w2 ⟨rfl, hb2⟩
          have hB2 := blw (blw hB hb1) hb2
          replace hr0 : w2.cell? ⟨w.heap.size, 0, none⟩ = some (.int .i64 r.s) := (hb2.cell (p := ⟨w.heap.size, 0, none⟩) hs).trans hr0
          replace hr1 : w2.cell? ⟨w.heap.size, 1, none⟩ = some (.int .i64 r.e) := (hb2.cell (p := ⟨w.heap.size, 1, none⟩) hs).trans hr1
          replace hr2 : w2.cell? ⟨w.heap.size, 2, none⟩ = some (.int .i64 r.d) := (hb2.cell (p := ⟨w.heap.size, 2, none⟩) hs).trans hr2
          replace hr3 : w2.cell? ⟨w.heap.size, 3, none⟩ = some (.int .i64 r.a) := (hb2.cell (p := ⟨w.heap.size, 3, none⟩) hs).trans hr3
          replace hs := Nat.lt_of_lt_of_le hs hb2.size
          go_wp2_with fail
          refine (Clone_Rule A c l w2 ((hl.below hB2).more hB2.size) (by omega)).mono ?_
          rintro e w3 ⟨A3, c3, rfl, hv3, hb3⟩
          have hB3 := blw hB2 hb3
          replace hr0 : w3.cell? ⟨w.heap.size, 0, none⟩ = some (.int .i64 r.s) := (hb3.cell (p := ⟨w.heap.size, 0, none⟩) hs).trans hr0
          replace hr1 : w3.cell? ⟨w.heap.size, 1, none⟩ = some (.int .i64 r.e) := (hb3.cell (p := ⟨w.heap.size, 1, none⟩) hs).trans hr1
          replace hr2 : w3.cell? ⟨w.heap.size, 2, none⟩ = some (.int .i64 r.d) := (hb3.cell (p := ⟨w.heap.size, 2, none⟩) hs).trans hr2
          replace hr3 : w3.cell? ⟨w.heap.size, 3, none⟩ = some (.int .i64 r.a) := (hb3.cell (p := ⟨w.heap.size, 3, none⟩) hs).trans hr3
          replace hs := Nat.lt_of_lt_of_le hs hb3.size
          go_wp2_with fail
          refine (BSearch_Rule A3 c3 l r w3 (hv3.ls encRule_len) (by omega) H1.out).mono ?_
          rw [Hf.out]
          rintro e w4 ⟨rfl, hb4⟩
          have hB4 := blw hB3 hb4
          replace hv3 := hv3.on hb4
          replace hr0 : w4.cell? ⟨w.heap.size, 0, none⟩ = some (.int .i64 r.s) := (hb4.cell (p := ⟨w.heap.size, 0, none⟩) hs).trans hr0
          replace hr1 : w4.cell? ⟨w.heap.size, 1, none⟩ = some (.int .i64 r.e) := (hb4.cell (p := ⟨w.heap.size, 1, none⟩) hs).trans hr1
          replace hr2 : w4.cell? ⟨w.heap.size, 2, none⟩ = some (.int .i64 r.d) := (hb4.cell (p := ⟨w.heap.size, 2, none⟩) hs).trans hr2
          replace hr3 : w4.cell? ⟨w.heap.size, 3, none⟩ = some (.int .i64 r.a) := (hb4.cell (p := ⟨w.heap.size, 3, none⟩) hs).trans hr3
          replace hs := Nat.lt_of_lt_of_le hs hb4.size
          have hw2 := hB2.size
          have hpi2 : (plcR l r.s r.e : Int) ≤ (l.length : Int) := by omega
          go_wp2_with fail
          refine (Insert_Rule A3 c3 w2.heap.size w4.heap.size (plcR l r.s r.e) l r (w4.alloc (.cells #[.int .i64 r.s, .int .i64 r.e, .int .i64 r.d, .int .i64 r.a] 47)) (hv3.alloc _) (Blk.new w4 47 _) (fun h => by have := (hv3.block h).2; omega) (by omega) hpl (by have h7 := hb3.size; have h8 := hb4.size; simp; omega)).mono ?_
          rintro e w5 ⟨A5, c5, rfl, hv5, hw5⟩
          have HB5 := Lib.hid ((blw_alloc hB4 (.cells #[.int .i64 r.s, .int .i64 r.e, .int .i64 r.d, .int .i64 r.a] 47)).trans (hw5.below (by have h9 := hB4.size; simp; omega) (fun q hq => by have := (hv3.block hq).1; omega)))
          have hz5 := hw5.size
          clear hw5
          go_wp2_with fail
          refine (IsSchedule_n A5 c5 _ (l.take (plcR l r.s r.e) ++ r :: l.drop (plcR l r.s r.e)) _ Hlen.out (hv5.ls encRule_len) (by rw [Hlen.out]; omega)).mono ?_
          rw [← Ho.out, Hk.out]
          rintro e w6 ⟨rfl, hb6⟩
          go_wp2_with fail
          go_ret2
          exact ⟨A5, c5, by rw [Hv.out.1, Hv.out.2, Ho.out, Hlen.out]; rfl, by rw [Hv.out.2, Ho.out, Hlen.out]; exact (hv5.mono hw2).on hb6, blw HB5.out hb6⟩
      · have Hf := Lib.hid hf
        have hpi : plcR l r.s r.e < l.length := by rw [plcR_found h1 hf]; exact found_lt hf
        have Ho := Lib.hid (putO_set h1 hf)
        have Hlen := Lib.hid (show (l.set (plcR l r.s r.e) r).length = l.length from List.length_set)
        cases ho : schedB (putO l r)
        · have Hk := Lib.hid ho
          have Hv := Lib.hid (putB_bad (l := l) (r := r) (.inr (.inr ho)))
          have H1 := Lib.hid h1
          clear h1 h2 h2' hf ho
          go_enter Try.func17, Try.ntmps17
          go_wp2_with fail
          refine hG.mono ?_
          rintro e w1 ⟨rfl, hb1⟩
          generalize (w.alloc (.cells #[.int .i64 r.s, .int .i64 r.e, .int .i64 r.d, .int .i64 r.a] 47)) = W0 at *
          replace hr0 : w1.cell? ⟨w.heap.size, 0, none⟩ = some (.int .i64 r.s) := (hb1.cell (p := ⟨w.heap.size, 0, none⟩) hs).trans hr0
          replace hr1 : w1.cell? ⟨w.heap.size, 1, none⟩ = some (.int .i64 r.e) := (hb1.cell (p := ⟨w.heap.size, 1, none⟩) hs).trans hr1
          replace hr2 : w1.cell? ⟨w.heap.size, 2, none⟩ = some (.int .i64 r.d) := (hb1.cell (p := ⟨w.heap.size, 2, none⟩) hs).trans hr2
          replace hr3 : w1.cell? ⟨w.heap.size, 3, none⟩ = some (.int .i64 r.a) := (hb1.cell (p := ⟨w.heap.size, 3, none⟩) hs).trans hr3
          replace hs := Nat.lt_of_lt_of_le hs hb1.size
          go_wp2_with fail
          refine (hR _).mono ?_
          rintro e w2 ⟨rfl, hb2⟩
          have hB2 := blw (blw hB hb1) hb2
          replace hr0 : w2.cell? ⟨w.heap.size, 0, none⟩ = some (.int .i64 r.s) := (hb2.cell (p := ⟨w.heap.size, 0, none⟩) hs).trans hr0
          replace hr1 : w2.cell? ⟨w.heap.size, 1, none⟩ = some (.int .i64 r.e) := (hb2.cell (p := ⟨w.heap.size, 1, none⟩) hs).trans hr1
          replace hr2 : w2.cell? ⟨w.heap.size, 2, none⟩ = some (.int .i64 r.d) := (hb2.cell (p := ⟨w.heap.size, 2, none⟩) hs).trans hr2
          replace hr3 : w2.cell? ⟨w.heap.size, 3, none⟩ = some (.int .i64 r.a) := (hb2.cell (p := ⟨w.heap.size, 3, none⟩) hs).trans hr3
          replace hs := Nat.lt_of_lt_of_le hs hb2.size
          go_wp2_with fail
          refine (Clone_Rule A c l w2 ((hl.below hB2).more hB2.size) (by omega)).mono ?_
          rintro e w3 ⟨A3, c3, rfl, hv3, hb3⟩
          have hB3 := blw hB2 hb3
          replace hr0 : w3.cell? ⟨w.heap.size, 0, none⟩ = some (.int .i64 r.s) := (hb3.cell (p := ⟨w.heap.size, 0, none⟩) hs).trans hr0
          replace hr1 : w3.cell? ⟨w.heap.size, 1, none⟩ = some (.int .i64 r.e) := (hb3.cell (p := ⟨w.heap.size, 1, none⟩) hs).trans hr1
          replace hr2 : w3.cell? ⟨w.heap.size, 2, none⟩ = some (.int .i64 r.d) := (hb3.cell (p := ⟨w.heap.size, 2, none⟩) hs).trans hr2
          replace hr3 : w3.cell? ⟨w.heap.size, 3, none⟩ = some (.int .i64 r.a) := (hb3.cell (p := ⟨w.heap.size, 3, none⟩) hs).trans hr3
          replace hs := Nat.lt_of_lt_of_le hs hb3.size
          go_wp2_with fail
          refine (BSearch_Rule A3 c3 l r w3 (hv3.ls encRule_len) (by omega) H1.out).mono ?_
          rw [Hf.out]
          rintro e w4 ⟨rfl, hb4⟩
          have hB4 := blw hB3 hb4
          replace hv3 := hv3.on hb4
          replace hr0 : w4.cell? ⟨w.heap.size, 0, none⟩ = some (.int .i64 r.s) := (hb4.cell (p := ⟨w.heap.size, 0, none⟩) hs).trans hr0
          replace hr1 : w4.cell? ⟨w.heap.size, 1, none⟩ = some (.int .i64 r.e) := (hb4.cell (p := ⟨w.heap.size, 1, none⟩) hs).trans hr1
          replace hr2 : w4.cell? ⟨w.heap.size, 2, none⟩ = some (.int .i64 r.d) := (hb4.cell (p := ⟨w.heap.size, 2, none⟩) hs).trans hr2
          replace hr3 : w4.cell? ⟨w.heap.size, 3, none⟩ = some (.int .i64 r.a) := (hb4.cell (p := ⟨w.heap.size, 3, none⟩) hs).trans hr3
          replace hs := Nat.lt_of_lt_of_le hs hb4.size
          have hw2 := hB2.size
          have hcap := hv3.capOk
          obtain ⟨g, rfl⟩ := hv3.some (by omega)
          obtain ⟨f, hrw, hbg, hlc, hcm, hstd⟩ := hv3.rowf encRule_len
          have hsf := hrw.frozen
          have hs0 := hrw.cell (i := plcR l r.s r.e * 4) (by omega)
          have hs1 := hrw.cell (i := plcR l r.s r.e * 4 + 1) (by omega)
          have hs2 := hrw.cell (i := plcR l r.s r.e * 4 + 2) (by omega)
          have hs3 := hrw.cell (i := plcR l r.s r.e * 4 + 3) (by omega)
          have hpi2 : (plcR l r.s r.e : Int) < (l.length : Int) := by omega
          have HV := Lib.hid (RowF.vec ((((hrw.put (plcR l r.s r.e * 4) (.int .i64 r.s)).put (plcR l r.s r.e * 4 + 1) (.int .i64 r.e)).put (plcR l r.s r.e * 4 + 2) (.int .i64 r.d)).put (plcR l r.s r.e * 4 + 3) (.int .i64 r.a)) encRule_len hbg (by rw [Hlen.out]; exact hlc) hcm (hstd.putRule (plcR l r.s r.e) r))
          have hgw : w.heap.size ≤ g := by omega
          have HB5 := Lib.hid ((((hB4.setCell (p := ⟨g, plcR l r.s r.e * 4, none⟩) hgw (.int .i64 r.s)).setCell (p := ⟨g, plcR l r.s r.e * 4 + 1, none⟩) hgw (.int .i64 r.e)).setCell (p := ⟨g, plcR l r.s r.e * 4 + 2, none⟩) hgw (.int .i64 r.d)).setCell (p := ⟨g, plcR l r.s r.e * 4 + 3, none⟩) hgw (.int .i64 r.a))
          clear hstd
          go_wp2_with fail
          refine (IsSchedule_n (some ⟨g, 0, none⟩) c3 _ (l.set (plcR l r.s r.e) r) _ Hlen.out (HV.out.ls encRule_len) (by rw [Hlen.out]; omega)).mono ?_
          rw [← Ho.out, Hk.out]
          rintro e w6 ⟨rfl, hb6⟩
          go_wp2_with fail
          go_ret2
          exact ⟨none, 0, by rw [Hv.out.1, Hv.out.2]; rfl, by rw [Hv.out.2]; exact Vec.nil, blw HB5.out hb6⟩
        · have Hk := Lib.hid ho
          have Hv := Lib.hid (putB_yes h1 h2 ho)
          have H1 := Lib.hid h1
          clear h1 h2 h2' hf ho
          go_enter Try.func17, Try.ntmps17
          go_wp2_with fail
          refine hG.mono ?_
          rintro e w1 ⟨rfl, hb1⟩
          generalize (w.alloc (.cells #[.int .i64 r.s, .int .i64 r.e, .int .i64 r.d, .int .i64 r.a] 47)) = W0 at *
          replace hr0 : w1.cell? ⟨w.heap.size, 0, none⟩ = some (.int .i64 r.s) := (hb1.cell (p := ⟨w.heap.size, 0, none⟩) hs).trans hr0
          replace hr1 : w1.cell? ⟨w.heap.size, 1, none⟩ = some (.int .i64 r.e) := (hb1.cell (p := ⟨w.heap.size, 1, none⟩) hs).trans hr1
          replace hr2 : w1.cell? ⟨w.heap.size, 2, none⟩ = some (.int .i64 r.d) := (hb1.cell (p := ⟨w.heap.size, 2, none⟩) hs).trans hr2
          replace hr3 : w1.cell? ⟨w.heap.size, 3, none⟩ = some (.int .i64 r.a) := (hb1.cell (p := ⟨w.heap.size, 3, none⟩) hs).trans hr3
          replace hs := Nat.lt_of_lt_of_le hs hb1.size
          go_wp2_with fail
          refine (hR _).mono ?_
          rintro e w2 ⟨rfl, hb2⟩
          have hB2 := blw (blw hB hb1) hb2
          replace hr0 : w2.cell? ⟨w.heap.size, 0, none⟩ = some (.int .i64 r.s) := (hb2.cell (p := ⟨w.heap.size, 0, none⟩) hs).trans hr0
          replace hr1 : w2.cell? ⟨w.heap.size, 1, none⟩ = some (.int .i64 r.e) := (hb2.cell (p := ⟨w.heap.size, 1, none⟩) hs).trans hr1
          replace hr2 : w2.cell? ⟨w.heap.size, 2, none⟩ = some (.int .i64 r.d) := (hb2.cell (p := ⟨w.heap.size, 2, none⟩) hs).trans hr2
          replace hr3 : w2.cell? ⟨w.heap.size, 3, none⟩ = some (.int .i64 r.a) := (hb2.cell (p := ⟨w.heap.size, 3, none⟩) hs).trans hr3
          replace hs := Nat.lt_of_lt_of_le hs hb2.size
          go_wp2_with fail
          refine (Clone_Rule A c l w2 ((hl.below hB2).more hB2.size) (by omega)).mono ?_
          rintro e w3 ⟨A3, c3, rfl, hv3, hb3⟩
          have hB3 := blw hB2 hb3
          replace hr0 : w3.cell? ⟨w.heap.size, 0, none⟩ = some (.int .i64 r.s) := (hb3.cell (p := ⟨w.heap.size, 0, none⟩) hs).trans hr0
          replace hr1 : w3.cell? ⟨w.heap.size, 1, none⟩ = some (.int .i64 r.e) := (hb3.cell (p := ⟨w.heap.size, 1, none⟩) hs).trans hr1
          replace hr2 : w3.cell? ⟨w.heap.size, 2, none⟩ = some (.int .i64 r.d) := (hb3.cell (p := ⟨w.heap.size, 2, none⟩) hs).trans hr2
          replace hr3 : w3.cell? ⟨w.heap.size, 3, none⟩ = some (.int .i64 r.a) := (hb3.cell (p := ⟨w.heap.size, 3, none⟩) hs).trans hr3
          replace hs := Nat.lt_of_lt_of_le hs hb3.size
          go_wp2_with fail
          refine (BSearch_Rule A3 c3 l r w3 (hv3.ls encRule_len) (by omega) H1.out).mono ?_
          rw [Hf.out]
          rintro e w4 ⟨rfl, hb4⟩
          have hB4 := blw hB3 hb4
          replace hv3 := hv3.on hb4
          replace hr0 : w4.cell? ⟨w.heap.size, 0, none⟩ = some (.int .i64 r.s) := (hb4.cell (p := ⟨w.heap.size, 0, none⟩) hs).trans hr0
          replace hr1 : w4.cell? ⟨w.heap.size, 1, none⟩ = some (.int .i64 r.e) := (hb4.cell (p := ⟨w.heap.size, 1, none⟩) hs).trans hr1
          replace hr2 : w4.cell? ⟨w.heap.size, 2, none⟩ = some (.int .i64 r.d) := (hb4.cell (p := ⟨w.heap.size, 2, none⟩) hs).trans hr2
          replace hr3 : w4.cell? ⟨w.heap.size, 3, none⟩ = some (.int .i64 r.a) := (hb4.cell (p := ⟨w.heap.size, 3, none⟩) hs).trans hr3
          replace hs := Nat.lt_of_lt_of_le hs hb4.size
          have hw2 := hB2.size
          have hcap := hv3.capOk
          obtain ⟨g, rfl⟩ := hv3.some (by omega)
          obtain ⟨f, hrw, hbg, hlc, hcm, hstd⟩ := hv3.rowf encRule_len
          have hsf := hrw.frozen
          have hs0 := hrw.cell (i := plcR l r.s r.e * 4) (by omega)
          have hs1 := hrw.cell (i := plcR l r.s r.e * 4 + 1) (by omega)
          have hs2 := hrw.cell (i := plcR l r.s r.e * 4 + 2) (by omega)
          have hs3 := hrw.cell (i := plcR l r.s r.e * 4 + 3) (by omega)
          have hpi2 : (plcR l r.s r.e : Int) < (l.length : Int) := by omega
          have HV := Lib.hid (RowF.vec ((((hrw.put (plcR l r.s r.e * 4) (.int .i64 r.s)).put (plcR l r.s r.e * 4 + 1) (.int .i64 r.e)).put (plcR l r.s r.e * 4 + 2) (.int .i64 r.d)).put (plcR l r.s r.e * 4 + 3) (.int .i64 r.a)) encRule_len hbg (by rw [Hlen.out]; exact hlc) hcm (hstd.putRule (plcR l r.s r.e) r))
          have hgw : w.heap.size ≤ g := by omega
          have HB5 := Lib.hid ((((hB4.setCell (p := ⟨g, plcR l r.s r.e * 4, none⟩) hgw (.int .i64 r.s)).setCell (p := ⟨g, plcR l r.s r.e * 4 + 1, none⟩) hgw (.int .i64 r.e)).setCell (p := ⟨g, plcR l r.s r.e * 4 + 2, none⟩) hgw (.int .i64 r.d)).setCell (p := ⟨g, plcR l r.s r.e * 4 + 3, none⟩) hgw (.int .i64 r.a))
          clear hstd
          go_wp2_with fail
          refine (IsSchedule_n (some ⟨g, 0, none⟩) c3 _ (l.set (plcR l r.s r.e) r) _ Hlen.out (HV.out.ls encRule_len) (by rw [Hlen.out]; omega)).mono ?_
          rw [← Ho.out, Hk.out]
          rintro e w6 ⟨rfl, hb6⟩
          go_wp2_with fail
          go_ret2
          exact ⟨some ⟨g, 0, none⟩, c3, by rw [Hv.out.1, Hv.out.2, Ho.out, Hlen.out]; rfl, by rw [Hv.out.2, Ho.out]; exact (HV.out.mono hw2).on hb6, blw HB5.out hb6⟩

end Go.Proofs.Ytnohonedfeacdaa
