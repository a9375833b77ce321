/- Contracts of the laws' helpers for Event. -/
import Derived.Test.YteeolfikhhplkaaL
import Derived.Test.YteeolfikhhplkaaRows
namespace Go.Proofs.Yteeolfikhhplkaa
set_option linter.unusedVariables false
set_option linter.unusedSimpArgs false
open Go.RowKit
attribute [local go_sem] Aft.cell

theorem Ls.at_Event {w : World} {B : Nat} {A : Option Addr} {l : List Ev} (h : Ls w B encEv 2 A l) {k : Nat} (hk : k < l.length) :
    ∃ b off, A = some ⟨b, off, none⟩ ∧ b < B ∧ w.cell? ⟨b, off + k * 2, none⟩ = some (.int .i64 l[k].1) ∧ w.cell? ⟨b, off + k * 2 + 1, none⟩ = some (.int .i64 l[k].2) := by
  obtain ⟨b, off, e, hb, hc⟩ := h (by omega)
  exact ⟨b, off, e, hb, hc k hk 0 _ rfl, hc k hk 1 _ rfl⟩

set_option maxHeartbeats 400000 in
theorem toEvent_v (x0 : Int) (x1 : Int) (w : World) :
    Calls Try.prog 12 #[.agg #[.int .i64 x0, .int .i64 x1]] w fun e w' => e = .returned (.agg #[.int .i64 x0, .int .i64 x1]) ∧ Below w.heap.size w w' := by
  go_enter Try.func12, Try.ntmps12
  go_wp2
  refine bodyPost_ret (v := .agg #[.int .i64 x0, .int .i64 x1]) (by simp [results, Try.results12, go_sem]) rfl ⟨rfl, ?_⟩
  exact blw_alloc (blw_alloc (blw_alloc (Below.refl _ _) _) _) _

set_option maxHeartbeats 1000000 in
theorem toEventS_any (A : Option Addr) (c : Nat) (l : List Ev) (w : World) (hl : Ls w w.heap.size encEv 2 A l) (hn : l.length ≤ 1048576) :
    Calls Try.prog 34 #[.slice A l.length c] w (MadeS w 27 encEv 2 l) := by
  have hmk := run_make_of (P := Try.prog) (t := 44) (e := 27) (z := .agg #[.int .i64 0, .int .i64 0]) (size := 2) (bytes := 16) Try.underlying44 (by kernel_rfl) l.length (by omega) (by omega)
  have hlen : (l.length : Int) ≤ 1048576 := by omega
  go_enter Try.func34, Try.ntmps34
  go_wp2_with fail
  have hrow := RowF.made w 27 #[.int .i64 0, .int .i64 0] (l.length * 2)
  have hbel := blw_alloc (Below.refl w.heap.size w) (.cells (madeCells #[.int .i64 0, .int .i64 0] (l.length * 2)) 27)
  clear hmk
  go_loopw [4] (fun i wr => ∃ (k : Nat) (f : Nat → Value), k ≤ l.length ∧ i = .int .i64 k ∧ Below w.heap.size w wr ∧ RowF wr w.heap.size 27 (l.length * 2) f ∧ Hid (Fill encEv 2 l k f)) (fun i _ => l.length - (intOf i).toNat)
  case atStart => exact ⟨0, _, Nat.zero_le _, rfl, hbel, hrow, Fill.zero⟩
  case round =>
    clear hbel hrow
    obtain ⟨k, f, hk, rfl, hb, hr, hf⟩ := hrel
    by_cases hlt : k < l.length
    · obtain ⟨b, off, rfl, hbb, hc0, hc1⟩ := (hl.below hb).at_Event hlt
      have hm : k * 2 + 2 ≤ l.length * 2 := by omega
      have hgl := hr.lt
      go_wp2_with fail
      refine (toEvent_v _ _ _).mono ?_
      rintro e w1 ⟨rfl, hb1⟩
      have hr1 := hr.below hb1 hgl
      have hw1 : Below w.heap.size w w1 := blw hb hb1
      have hs0 := hr1.cell (i := k * 2) (by omega)
      have hz0 := hr1.frozen (k * 2)
      have hs1 := hr1.cell (i := k * 2 + 1) (by omega)
      have hz1 := hr1.frozen (k * 2 + 1)
      go_wp2_with fail
      go_roundw
      case rel => exact ⟨k + 1, _, by omega, by go_num, ((hw1.setCell (Nat.le_refl _) _).setCell (Nat.le_refl _) _), ((hr1.put (k * 2) _).put (k * 2 + 1) _), hf.out.step hlt encEv_len (fun j u hu => by
        have hj : j < 2 := by rw [← encEv_len l[k]]; exact (List.getElem?_eq_some_iff.1 hu).1
        match j, hj, hu with
        | 0, _, hu => simp [encEv] at hu; subst hu; simp [upd]
        | 1, _, hu => simp [encEv] at hu; subst hu; simp [upd]) (fun m hm => by rw [upd_other (by omega), upd_other (by omega)])⟩
      case measure => simp [intOf]; omega
    · have hkk : k = l.length := by omega
      subst hkk
      go_wp2_with fail
      go_ret
      exact ⟨w.heap.size, Nat.le_refl _, rfl, hf.out.own hr, hb⟩

set_option maxHeartbeats 400000 in
theorem eqEvent_v (x0 : Int) (x1 : Int) (w : World) :
    Calls Try.prog 38 #[.agg #[.int .i64 x0, .int .i64 x1], .agg #[.int .i64 x0, .int .i64 x1]] w fun e w' => e = .returned (.bool true) ∧ Below w.heap.size w w' := by
  go_enter Try.func38, Try.ntmps38
  go_wp2
  go_ret
  exact ⟨rfl, blw_alloc (blw_alloc (Below.refl _ _) _) _⟩

set_option maxHeartbeats 1000000 in
theorem eqEventS_any (A A' : Option Addr) (c c' : Nat) (l : List Ev) (w : World) (hl : Ls w w.heap.size encEv 2 A l) (hl' : Ls w w.heap.size encEv 2 A' l) (hn : l.length ≤ 9223372036854775807) :
    Calls Try.prog 35 #[.slice A l.length c, .slice A' l.length c'] w fun e w' => e = .returned (.bool true) ∧ Below w.heap.size w w' := by
  have hlen : (l.length : Int) ≤ 9223372036854775807 := by omega
  go_enter Try.func35, Try.ntmps35
  go_wp2_with fail
  go_loopw [5] (fun i wr => ∃ (k : Nat), k ≤ l.length ∧ i = .int .i64 k ∧ Below w.heap.size w wr) (fun i _ => l.length - (intOf i).toNat)
  case atStart => exact ⟨0, Nat.zero_le _, rfl, Below.refl _ _⟩
  case round =>
    obtain ⟨k, hk, rfl, hb⟩ := hrel
    by_cases hlt : k < l.length
    · obtain ⟨b, off, rfl, hbb, hc0, hc1⟩ := (hl.below hb).at_Event hlt
      obtain ⟨b', off', rfl, hbb', hd0, hd1⟩ := (hl'.below hb).at_Event hlt
      have hsz := hb.size
      have hq : b < wr.heap.size := by omega
      have hq' : b' < wr.heap.size := by omega
      have hi0 : (0 : Int) ≤ (k : Int) := by omega
      have hi1 : (k : Int) < (l.length : Int) := by omega
      go_wp2_with fail
      refine wp_region_calm (by kernel_rfl) (by kernel_rfl) ?_
      repeat (go_big_quiet_step ((go_at_call 38; exact Calls.calm (eqEvent_v _ _ _))))
      refine wpQuiet_nil ?_
      rintro _ ⟨⟨w1, hb1⟩, rfl⟩
      go_wp2_with fail
      go_roundw
      case rel => exact ⟨k + 1, by omega, by go_num, blw hb hb1⟩
      case measure => simp [intOf]; omega
    · have hkk : k = l.length := by omega
      subst hkk
      go_wp2_with fail
      go_ret
      exact ⟨rfl, hb⟩

end Go.Proofs.Yteeolfikhhplkaa
