/- Contracts of the laws' helpers for Event. -/
import Derived.Test.YtopfcfedcmpamaaDoorL
import Derived.Test.YtopfcfedcmpamaaDoorRows
namespace Go.Proofs.YtopfcfedcmpamaaDoor
set_option linter.unusedVariables false
set_option linter.unusedSimpArgs false
open Go.RowKit
attribute [local go_sem] Aft.cell

theorem Ls.at_Event {w : World} {B : Nat} {A : Option Addr} {l : List Ev} (h : Ls w B encEv 2 A l) {k : Nat} (hk : k < l.length) :
    ∃ b off, A = some ⟨b, off, none⟩ ∧ b < B ∧ w.cell? ⟨b, off + k * 2, none⟩ = some (.int .i64 l[k].1) ∧ w.cell? ⟨b, off + k * 2 + 1, none⟩ = some (.int .i64 l[k].2) := by
  obtain ⟨b, off, e, hb, hc⟩ := h (by omega)
  exact ⟨b, off, e, hb, hc k hk 0 _ rfl, hc k hk 1 _ rfl⟩



set_option maxHeartbeats 400000 in
theorem eqEvent_v (x0 : Int) (x1 : Int) (w : World) :
    Calls Tryd.prog 53 #[.agg #[.int .i64 x0, .int .i64 x1], .agg #[.int .i64 x0, .int .i64 x1]] w fun e w' => e = .returned (.bool true) ∧ Below w.heap.size w w' := by
  go_enter Tryd.func53, Tryd.ntmps53
  go_wp2
  go_ret
  exact ⟨rfl, blw_alloc (blw_alloc (Below.refl _ _) _) _⟩

set_option maxHeartbeats 1000000 in
theorem eqEventS_any (A A' : Option Addr) (c c' : Nat) (l : List Ev) (w : World) (hl : Ls w w.heap.size encEv 2 A l) (hl' : Ls w w.heap.size encEv 2 A' l) (hn : l.length ≤ 9223372036854775807) :
    Calls Tryd.prog 29 #[.slice A l.length c, .slice A' l.length c'] w fun e w' => e = .returned (.bool true) ∧ Below w.heap.size w w' := by
  have hlen : (l.length : Int) ≤ 9223372036854775807 := by omega
  go_enter Tryd.func29, Tryd.ntmps29
  go_wp2_with fail
  go_loopw [5] (fun i wr => ∃ (k : Nat), k ≤ l.length ∧ i = .int .i64 k ∧ Below w.heap.size w wr) (fun i _ => l.length - (intOf i).toNat)
  case atStart => exact ⟨0, Nat.zero_le _, rfl, Below.refl _ _⟩
  case round =>
    obtain ⟨k, hk, rfl, hb⟩ := hrel
    by_cases hlt : k < l.length
    · obtain ⟨b, off, rfl, hbb, hc0, hc1⟩ := (hl.below hb).at_Event hlt
      obtain ⟨b', off', rfl, hbb', hd0, hd1⟩ := (hl'.below hb).at_Event hlt
      have hsz := hb.size
      have hq : b < wr.heap.size := by omega
      have hq' : b' < wr.heap.size := by omega
      have hi0 : (0 : Int) ≤ (k : Int) := by omega
      have hi1 : (k : Int) < (l.length : Int) := by omega
      go_wp2_with fail
      refine wp_region_calm (by kernel_rfl) (by kernel_rfl) ?_
      repeat (go_big_quiet_step ((go_at_call 53; exact Calls.calm (eqEvent_v _ _ _))))
      refine wpQuiet_nil ?_
      rintro _ ⟨⟨w1, hb1⟩, rfl⟩
      go_wp2_with fail
      go_roundw
      case rel => exact ⟨k + 1, by omega, by go_num, blw hb hb1⟩
      case measure => simp [intOf]; omega
    · have hkk : k = l.length := by omega
      subst hkk
      go_wp2_with fail
      go_ret
      exact ⟨rfl, hb⟩


def mkEvent (k0 : Int) (n : Nat) : List Ev := (List.range n).map fun (i : Nat) => (k0 + 2 * (i : Int), k0 + 2 * (i : Int) + 1)
theorem mkEvent_len (k0 : Int) (n : Nat) : (mkEvent k0 n).length = n := by simp [mkEvent]
theorem mkEvent_get (k0 : Int) (n k : Nat) (h : k < (mkEvent k0 n).length) : (mkEvent k0 n)[k] = (k0 + 2 * (k : Int), k0 + 2 * (k : Int) + 1) := by simp [mkEvent]

set_option maxHeartbeats 1000000 in
theorem markEventS_any (A : Option Addr) (c n : Nat) (k0 : Int) (w : World) (hr : Row1 w 46 2 A n) (hn : n ≤ 1048576) (h0 : 0 ≤ k0) (h1 : k0 ≤ 1099511627776) :
    Calls Tryd.prog 30 #[.slice A n c, .int .i64 k0] w (MarkS w encEv 2 A (mkEvent k0 n) (k0 + 2 * (n : Int))) := by
  have hlen : (n : Int) ≤ 1048576 := by omega
  have hr0 : Hid (0 < n → ∃ g f m, A = some ⟨g, 0, none⟩ ∧ n * 2 ≤ m ∧ RowF w g 46 m f ∧ Fill encEv 2 (mkEvent k0 n) 0 f) := fun h => by
    obtain ⟨g, f, m, h1, h2, h3⟩ := hr h
    exact ⟨g, f, m, h1, h3, h2, Fill.zero⟩
  clear hr
  go_enter Tryd.func30, Tryd.ntmps30
  go_wp2_with fail
  go_loopw [1, 5] (fun kk i wr => ∃ k : Nat, k ≤ n ∧ i = .int .i64 k ∧ kk = .int .i64 (k0 + 2 * (k : Int)) ∧ Wr (blkOf A) w wr ∧ Hid (0 < n → ∃ g f m, A = some ⟨g, 0, none⟩ ∧ n * 2 ≤ m ∧ RowF wr g 46 m f ∧ Fill encEv 2 (mkEvent k0 n) k f)) (fun _ i _ => n - (intOf i).toNat)
  case atStart => exact ⟨0, Nat.zero_le _, rfl, by go_num, Wr.refl _ _, hr0⟩
  case round =>
    clear hr0
    obtain ⟨k, hk, rfl, rfl, hw, hrow⟩ := hrel
    by_cases hlt : k < n
    · obtain ⟨g, f, m, rfl, hm, hr, hf⟩ := hrow.out (by omega)
      clear hrow
      have Hf := Lib.hid hf
      clear hf
      have hm2 : k * 2 + 2 ≤ n * 2 := by omega
      have hkn : (k : Int) < (n : Int) := by omega
      have hs0 := hr.cell (i := k * 2) (by omega)
      have hz0 := hr.frozen (k * 2)
      have hs1 := hr.cell (i := k * 2 + 1) (by omega)
      have hz1 := hr.frozen (k * 2 + 1)
      go_wp2_with fail
      go_roundw
      case rel => exact ⟨k + 1, by omega, by go_num, by go_num, ((hw.setCell (.inl ⟨0, rfl⟩) _).setCell (.inl ⟨0, rfl⟩) _), fun _ => ⟨g, _, m, rfl, hm, ((hr.put (k * 2) _).put (k * 2 + 1) _), Hf.out.step (by rw [mkEvent_len]; exact hlt) encEv_len (fun j u hu => by
        have hj : j < 2 := by have hq := (List.getElem?_eq_some_iff.1 hu).1; rwa [encEv_len] at hq
        rw [mkEvent_get] at hu
        match j, hj, hu with
        | 0, _, hu => simp [encEv] at hu; subst hu; simp [upd]
        | 1, _, hu => simp [encEv] at hu; subst hu; simp [upd]) (fun m hm => by rw [upd_other (by omega), upd_other (by omega)])⟩⟩
      case measure => simp [intOf]; omega
    · have hkk : k = n := by omega
      subst hkk
      go_wp2_with fail
      go_ret
      refine ⟨rfl, hw, fun h => ?_⟩
      obtain ⟨g, f, m, rfl, hm, hr, hf⟩ := hrow.out (by rw [mkEvent_len] at h; exact h)
      exact (Fill.ls (l := mkEvent k0 k) (by rw [mkEvent_len]; exact hf) hr encEv_len (by rw [mkEvent_len]; exact hm)) h

set_option maxHeartbeats 1000000 in
theorem heldEventS_any (A : Option Addr) (c n : Nat) (k0 : Int) (w : World) (hl : Ls w w.heap.size encEv 2 A (mkEvent k0 n)) (hn : n ≤ 1048576) (h0 : 0 ≤ k0) (h1 : k0 ≤ 1099511627776) :
    Calls Tryd.prog 31 #[.slice A n c, .int .i64 k0] w fun e w' => e = .returned (.int .i64 (k0 + 2 * (n : Int))) ∧ w = w' := by
  have hlen : (n : Int) ≤ 1048576 := by omega
  go_enter Tryd.func31, Tryd.ntmps31
  go_wp2_with fail
  go_loop [1, 5] (fun kk i => ∃ k : Nat, k ≤ n ∧ i = .int .i64 k ∧ kk = .int .i64 (k0 + 2 * (k : Int))) (fun _ i => n - (intOf i).toNat)
  case atStart => exact ⟨0, Nat.zero_le _, rfl, by go_num⟩
  case round =>
    obtain ⟨k, hk, rfl, rfl⟩ := hrel
    by_cases hlt : k < n
    · obtain ⟨b, off, rfl, hbb, hc0, hc1⟩ := hl.at_Event (by rw [mkEvent_len]; exact hlt)
      rw [mkEvent_get] at hc0 hc1
      simp only [] at hc0 hc1
      have hkn : (k : Int) < (n : Int) := by omega
      go_wp2_with fail
      go_round
      case rel => exact ⟨k + 1, by omega, by go_num, by go_num⟩
      case measure => simp [intOf]; omega
    · have hkk : k = n := by omega
      subst hkk
      go_wp2_with fail
      go_ret
      exact ⟨rfl, rfl⟩

end Go.Proofs.YtopfcfedcmpamaaDoor
