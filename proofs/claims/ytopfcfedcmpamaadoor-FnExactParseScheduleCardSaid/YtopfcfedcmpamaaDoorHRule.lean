/- Contracts of the laws' helpers for Rule. -/
import Derived.Test.YtopfcfedcmpamaaDoorL
import Derived.Test.YtopfcfedcmpamaaDoorRows
namespace Go.Proofs.YtopfcfedcmpamaaDoor
set_option linter.unusedVariables false
set_option linter.unusedSimpArgs false
open Go.RowKit
attribute [local go_sem] Aft.cell

theorem Ls.at_Rule {w : World} {B : Nat} {A : Option Addr} {l : List RuleD} (h : Ls w B encRule 4 A l) {k : Nat} (hk : k < l.length) :
    ∃ b off, A = some ⟨b, off, none⟩ ∧ b < B ∧ w.cell? ⟨b, off + k * 4, none⟩ = some (.int .i64 l[k].s) ∧ w.cell? ⟨b, off + k * 4 + 1, none⟩ = some (.int .i64 l[k].e) ∧ w.cell? ⟨b, off + k * 4 + 2, none⟩ = some (.int .i64 l[k].d) ∧ w.cell? ⟨b, off + k * 4 + 3, none⟩ = some (.int .i64 l[k].a) := by
  obtain ⟨b, off, e, hb, hc⟩ := h (by omega)
  exact ⟨b, off, e, hb, hc k hk 0 _ rfl, hc k hk 1 _ rfl, hc k hk 2 _ rfl, hc k hk 3 _ rfl⟩

set_option maxHeartbeats 400000 in
theorem toRule_v (x0 : Int) (x1 : Int) (x2 : Int) (x3 : Int) (w : World) :
    Calls Tryd.prog 40 #[.agg #[.int .i64 x0, .int .i64 x1, .int .i64 x2, .int .i64 x3]] w fun e w' => e = .returned (.agg #[.int .i64 x0, .int .i64 x1, .int .i64 x2, .int .i64 x3]) ∧ Below w.heap.size w w' := by
  go_enter Tryd.func40, Tryd.ntmps40
  go_wp2
  refine bodyPost_ret (v := .agg #[.int .i64 x0, .int .i64 x1, .int .i64 x2, .int .i64 x3]) (by simp [results, Tryd.results40, go_sem]) rfl ⟨rfl, ?_⟩
  exact blw_alloc (blw_alloc (blw_alloc (Below.refl _ _) _) _) _

set_option maxHeartbeats 1000000 in
theorem toRuleS_any (A : Option Addr) (c : Nat) (l : List RuleD) (w : World) (hl : Ls w w.heap.size encRule 4 A l) (hn : l.length ≤ 1048576) :
    Calls Tryd.prog 18 #[.slice A l.length c] w (MadeS w 58 encRule 4 l) := by
  have hmk := run_make_of (P := Tryd.prog) (t := 30) (e := 58) (z := .agg #[.int .i64 0, .int .i64 0, .int .i64 0, .int .i64 0]) (size := 4) (bytes := 32) Tryd.underlying30 (by kernel_rfl) l.length (by omega) (by omega)
  have hlen : (l.length : Int) ≤ 1048576 := by omega
  go_enter Tryd.func18, Tryd.ntmps18
  go_wp2_with fail
  have hrow := RowF.made w 58 #[.int .i64 0, .int .i64 0, .int .i64 0, .int .i64 0] (l.length * 4)
  have hbel := blw_alloc (Below.refl w.heap.size w) (.cells (madeCells #[.int .i64 0, .int .i64 0, .int .i64 0, .int .i64 0] (l.length * 4)) 58)
  clear hmk
  go_loopw [4] (fun i wr => ∃ (k : Nat) (f : Nat → Value), k ≤ l.length ∧ i = .int .i64 k ∧ Below w.heap.size w wr ∧ RowF wr w.heap.size 58 (l.length * 4) f ∧ Hid (Fill encRule 4 l k f)) (fun i _ => l.length - (intOf i).toNat)
  case atStart => exact ⟨0, _, Nat.zero_le _, rfl, hbel, hrow, Fill.zero⟩
  case round =>
    clear hbel hrow
    obtain ⟨k, f, hk, rfl, hb, hr, hf⟩ := hrel
    by_cases hlt : k < l.length
    · obtain ⟨b, off, rfl, hbb, hc0, hc1, hc2, hc3⟩ := (hl.below hb).at_Rule hlt
      have hm : k * 4 + 4 ≤ l.length * 4 := by omega
      have hgl := hr.lt
      go_wp2_with fail
      refine (toRule_v _ _ _ _ _).mono ?_
      rintro e w1 ⟨rfl, hb1⟩
      have hr1 := hr.below hb1 hgl
      have hw1 : Below w.heap.size w w1 := blw hb hb1
      have hs0 := hr1.cell (i := k * 4) (by omega)
      have hz0 := hr1.frozen (k * 4)
      have hs1 := hr1.cell (i := k * 4 + 1) (by omega)
      have hz1 := hr1.frozen (k * 4 + 1)
      have hs2 := hr1.cell (i := k * 4 + 2) (by omega)
      have hz2 := hr1.frozen (k * 4 + 2)
      have hs3 := hr1.cell (i := k * 4 + 3) (by omega)
      have hz3 := hr1.frozen (k * 4 + 3)
      go_wp2_with fail
      go_roundw
      case rel => exact ⟨k + 1, _, by omega, by go_num, ((((hw1.setCell (Nat.le_refl _) _).setCell (Nat.le_refl _) _).setCell (Nat.le_refl _) _).setCell (Nat.le_refl _) _), ((((hr1.put (k * 4) _).put (k * 4 + 1) _).put (k * 4 + 2) _).put (k * 4 + 3) _), hf.out.step hlt encRule_len (fun j u hu => by
        have hj : j < 4 := by rw [← encRule_len l[k]]; exact (List.getElem?_eq_some_iff.1 hu).1
        match j, hj, hu with
        | 0, _, hu => simp [encRule] at hu; subst hu; simp [upd]
        | 1, _, hu => simp [encRule] at hu; subst hu; simp [upd]
        | 2, _, hu => simp [encRule] at hu; subst hu; simp [upd]
        | 3, _, hu => simp [encRule] at hu; subst hu; simp [upd]) (fun m hm => by rw [upd_other (by omega), upd_other (by omega), upd_other (by omega), upd_other (by omega)])⟩
      case measure => simp [intOf]; omega
    · have hkk : k = l.length := by omega
      subst hkk
      go_wp2_with fail
      go_ret
      exact ⟨w.heap.size, Nat.le_refl _, rfl, hf.out.own hr, hb⟩

set_option maxHeartbeats 400000 in
theorem eqRule_v (x0 : Int) (x1 : Int) (x2 : Int) (x3 : Int) (w : World) :
    Calls Tryd.prog 39 #[.agg #[.int .i64 x0, .int .i64 x1, .int .i64 x2, .int .i64 x3], .agg #[.int .i64 x0, .int .i64 x1, .int .i64 x2, .int .i64 x3]] w fun e w' => e = .returned (.bool true) ∧ Below w.heap.size w w' := by
  go_enter Tryd.func39, Tryd.ntmps39
  go_wp2
  go_ret
  exact ⟨rfl, blw_alloc (blw_alloc (Below.refl _ _) _) _⟩

set_option maxHeartbeats 1000000 in
theorem eqRuleS_any (A A' : Option Addr) (c c' : Nat) (l : List RuleD) (w : World) (hl : Ls w w.heap.size encRule 4 A l) (hl' : Ls w w.heap.size encRule 4 A' l) (hn : l.length ≤ 9223372036854775807) :
    Calls Tryd.prog 13 #[.slice A l.length c, .slice A' l.length c'] w fun e w' => e = .returned (.bool true) ∧ Below w.heap.size w w' := by
  have hlen : (l.length : Int) ≤ 9223372036854775807 := by omega
  go_enter Tryd.func13, Tryd.ntmps13
  go_wp2_with fail
  go_loopw [5] (fun i wr => ∃ (k : Nat), k ≤ l.length ∧ i = .int .i64 k ∧ Below w.heap.size w wr) (fun i _ => l.length - (intOf i).toNat)
  case atStart => exact ⟨0, Nat.zero_le _, rfl, Below.refl _ _⟩
  case round =>
    obtain ⟨k, hk, rfl, hb⟩ := hrel
    by_cases hlt : k < l.length
    · obtain ⟨b, off, rfl, hbb, hc0, hc1, hc2, hc3⟩ := (hl.below hb).at_Rule hlt
      obtain ⟨b', off', rfl, hbb', hd0, hd1, hd2, hd3⟩ := (hl'.below hb).at_Rule hlt
      have hsz := hb.size
      have hq : b < wr.heap.size := by omega
      have hq' : b' < wr.heap.size := by omega
      have hi0 : (0 : Int) ≤ (k : Int) := by omega
      have hi1 : (k : Int) < (l.length : Int) := by omega
      go_wp2_with fail
      refine wp_region_calm (by kernel_rfl) (by kernel_rfl) ?_
      repeat (go_big_quiet_step ((go_at_call 39; exact Calls.calm (eqRule_v _ _ _ _ _))))
      refine wpQuiet_nil ?_
      rintro _ ⟨⟨w1, hb1⟩, rfl⟩
      go_wp2_with fail
      go_roundw
      case rel => exact ⟨k + 1, by omega, by go_num, blw hb hb1⟩
      case measure => simp [intOf]; omega
    · have hkk : k = l.length := by omega
      subst hkk
      go_wp2_with fail
      go_ret
      exact ⟨rfl, hb⟩

set_option maxHeartbeats 400000 in
theorem szRuleS_sz (A : Option Addr) (c n : Nat) (left : Int) (w : World) (hn : n ≤ maxLen) (h0 : 0 ≤ left) (h1 : left ≤ 1048576) :
    Calls Tryd.prog 16 #[.slice A n c, .int .i64 left] w (SzS w left (n ≤ 1048576)) := by
  unfold maxLen at hn
  by_cases h : (n : Int) ≤ left
  · go_enter Tryd.func16, Tryd.ntmps16
    go_wp2
    go_ret
    exact ⟨left - n, rfl, by omega, by omega, fun _ => by omega, Below.refl _ _⟩
  · go_enter Tryd.func16, Tryd.ntmps16
    go_wp2
    go_ret
    exact ⟨-1, rfl, by omega, by omega, fun h => absurd h (by omega), Below.refl _ _⟩

def mkRule (k0 : Int) (n : Nat) : List RuleD := (List.range n).map fun (i : Nat) => ⟨k0 + 4 * (i : Int), k0 + 4 * (i : Int) + 1, k0 + 4 * (i : Int) + 1 + 1, k0 + 4 * (i : Int) + 1 + 1 + 1⟩
theorem mkRule_len (k0 : Int) (n : Nat) : (mkRule k0 n).length = n := by simp [mkRule]
theorem mkRule_get (k0 : Int) (n k : Nat) (h : k < (mkRule k0 n).length) : (mkRule k0 n)[k] = ⟨k0 + 4 * (k : Int), k0 + 4 * (k : Int) + 1, k0 + 4 * (k : Int) + 1 + 1, k0 + 4 * (k : Int) + 1 + 1 + 1⟩ := by simp [mkRule]

set_option maxHeartbeats 1000000 in
theorem markRuleS_any (A : Option Addr) (c n : Nat) (k0 : Int) (w : World) (hr : Row1 w 58 4 A n) (hn : n ≤ 1048576) (h0 : 0 ≤ k0) (h1 : k0 ≤ 1099511627776) :
    Calls Tryd.prog 14 #[.slice A n c, .int .i64 k0] w (MarkS w encRule 4 A (mkRule k0 n) (k0 + 4 * (n : Int))) := by
  have hlen : (n : Int) ≤ 1048576 := by omega
  have hr0 : Hid (0 < n → ∃ g f m, A = some ⟨g, 0, none⟩ ∧ n * 4 ≤ m ∧ RowF w g 58 m f ∧ Fill encRule 4 (mkRule k0 n) 0 f) := fun h => by
    obtain ⟨g, f, m, h1, h2, h3⟩ := hr h
    exact ⟨g, f, m, h1, h3, h2, Fill.zero⟩
  clear hr
  go_enter Tryd.func14, Tryd.ntmps14
  go_wp2_with fail
  go_loopw [1, 5] (fun kk i wr => ∃ k : Nat, k ≤ n ∧ i = .int .i64 k ∧ kk = .int .i64 (k0 + 4 * (k : Int)) ∧ Wr (blkOf A) w wr ∧ Hid (0 < n → ∃ g f m, A = some ⟨g, 0, none⟩ ∧ n * 4 ≤ m ∧ RowF wr g 58 m f ∧ Fill encRule 4 (mkRule k0 n) k f)) (fun _ i _ => n - (intOf i).toNat)
  case atStart => exact ⟨0, Nat.zero_le _, rfl, by go_num, Wr.refl _ _, hr0⟩
  case round =>
    clear hr0
    obtain ⟨k, hk, rfl, rfl, hw, hrow⟩ := hrel
    by_cases hlt : k < n
    · obtain ⟨g, f, m, rfl, hm, hr, hf⟩ := hrow.out (by omega)
      clear hrow
      have Hf := Lib.hid hf
      clear hf
      have hm2 : k * 4 + 4 ≤ n * 4 := by omega
      have hkn : (k : Int) < (n : Int) := by omega
      have hs0 := hr.cell (i := k * 4) (by omega)
      have hz0 := hr.frozen (k * 4)
      have hs1 := hr.cell (i := k * 4 + 1) (by omega)
      have hz1 := hr.frozen (k * 4 + 1)
      have hs2 := hr.cell (i := k * 4 + 2) (by omega)
      have hz2 := hr.frozen (k * 4 + 2)
      have hs3 := hr.cell (i := k * 4 + 3) (by omega)
      have hz3 := hr.frozen (k * 4 + 3)
      go_wp2_with fail
      go_roundw
      case rel => exact ⟨k + 1, by omega, by go_num, by go_num, ((((hw.setCell (.inl ⟨0, rfl⟩) _).setCell (.inl ⟨0, rfl⟩) _).setCell (.inl ⟨0, rfl⟩) _).setCell (.inl ⟨0, rfl⟩) _), fun _ => ⟨g, _, m, rfl, hm, ((((hr.put (k * 4) _).put (k * 4 + 1) _).put (k * 4 + 2) _).put (k * 4 + 3) _), Hf.out.step (by rw [mkRule_len]; exact hlt) encRule_len (fun j u hu => by
        have hj : j < 4 := by have hq := (List.getElem?_eq_some_iff.1 hu).1; rwa [encRule_len] at hq
        rw [mkRule_get] at hu
        match j, hj, hu with
        | 0, _, hu => simp [encRule] at hu; subst hu; simp [upd]
        | 1, _, hu => simp [encRule] at hu; subst hu; simp [upd]
        | 2, _, hu => simp [encRule] at hu; subst hu; simp [upd]
        | 3, _, hu => simp [encRule] at hu; subst hu; simp [upd]) (fun m hm => by rw [upd_other (by omega), upd_other (by omega), upd_other (by omega), upd_other (by omega)])⟩⟩
      case measure => simp [intOf]; omega
    · have hkk : k = n := by omega
      subst hkk
      go_wp2_with fail
      go_ret
      refine ⟨rfl, hw, fun h => ?_⟩
      obtain ⟨g, f, m, rfl, hm, hr, hf⟩ := hrow.out (by rw [mkRule_len] at h; exact h)
      exact (Fill.ls (l := mkRule k0 k) (by rw [mkRule_len]; exact hf) hr encRule_len (by rw [mkRule_len]; exact hm)) h

set_option maxHeartbeats 1000000 in
theorem heldRuleS_any (A : Option Addr) (c n : Nat) (k0 : Int) (w : World) (hl : Ls w w.heap.size encRule 4 A (mkRule k0 n)) (hn : n ≤ 1048576) (h0 : 0 ≤ k0) (h1 : k0 ≤ 1099511627776) :
    Calls Tryd.prog 15 #[.slice A n c, .int .i64 k0] w fun e w' => e = .returned (.int .i64 (k0 + 4 * (n : Int))) ∧ w = w' := by
  have hlen : (n : Int) ≤ 1048576 := by omega
  go_enter Tryd.func15, Tryd.ntmps15
  go_wp2_with fail
  go_loop [1, 5] (fun kk i => ∃ k : Nat, k ≤ n ∧ i = .int .i64 k ∧ kk = .int .i64 (k0 + 4 * (k : Int))) (fun _ i => n - (intOf i).toNat)
  case atStart => exact ⟨0, Nat.zero_le _, rfl, by go_num⟩
  case round =>
    obtain ⟨k, hk, rfl, rfl⟩ := hrel
    by_cases hlt : k < n
    · obtain ⟨b, off, rfl, hbb, hc0, hc1, hc2, hc3⟩ := hl.at_Rule (by rw [mkRule_len]; exact hlt)
      rw [mkRule_get] at hc0 hc1 hc2 hc3
      simp only [] at hc0 hc1 hc2 hc3
      have hkn : (k : Int) < (n : Int) := by omega
      go_wp2_with fail
      go_round
      case rel => exact ⟨k + 1, by omega, by go_num, by go_num⟩
      case measure => simp [intOf]; omega
    · have hkk : k = n := by omega
      subst hkk
      go_wp2_with fail
      go_ret
      exact ⟨rfl, rfl⟩

end Go.Proofs.YtopfcfedcmpamaaDoor
