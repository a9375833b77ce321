/- Contracts of the laws' helpers for Function. -/
import Derived.Test.YtnjgnehiclkkoaaDoorL
import Derived.Test.YtnjgnehiclkkoaaDoorRows
namespace Go.Proofs.YtnjgnehiclkkoaaDoor
set_option linter.unusedVariables false
set_option linter.unusedSimpArgs false
open Go.RowKit
attribute [local go_sem] Aft.cell

theorem Ls.at_Function {w : World} {B : Nat} {A : Option Addr} {l : List FnD} (h : Ls w B encFn 3 A l) {k : Nat} (hk : k < l.length) :
    ∃ b off, A = some ⟨b, off, none⟩ ∧ b < B ∧ w.cell? ⟨b, off + k * 3, none⟩ = some (.int .i64 l[k].id) ∧ w.cell? ⟨b, off + k * 3 + 1, none⟩ = some (.int .i64 l[k].parent) ∧ w.cell? ⟨b, off + k * 3 + 2, none⟩ = some (.string l[k].name) := by
  obtain ⟨b, off, e, hb, hc⟩ := h (by omega)
  exact ⟨b, off, e, hb, hc k hk 0 _ rfl, hc k hk 1 _ rfl, hc k hk 2 _ rfl⟩

set_option maxHeartbeats 400000 in
theorem toFunction_v (x0 : Int) (x1 : Int) (x2 : ByteArray) (w : World) :
    Calls Tryd.prog 31 #[.agg #[.int .i64 x0, .int .i64 x1, .string x2]] w fun e w' => e = .returned (.agg #[.int .i64 x0, .int .i64 x1, .string x2]) ∧ Below w.heap.size w w' := by
  go_enter Tryd.func31, Tryd.ntmps31
  go_wp2
  refine bodyPost_ret (v := .agg #[.int .i64 x0, .int .i64 x1, .string x2]) (by simp [results, Tryd.results31, go_sem]) rfl ⟨rfl, ?_⟩
  exact blw_alloc (blw_alloc (blw_alloc (Below.refl _ _) _) _) _

set_option maxHeartbeats 1000000 in
theorem toFunctionS_any (A : Option Addr) (c : Nat) (l : List FnD) (w : World) (hl : Ls w w.heap.size encFn 3 A l) (hn : l.length ≤ 1048576) :
    Calls Tryd.prog 11 #[.slice A l.length c] w (MadeS w 49 encFn 3 l) := by
  have hmk := run_make_of (P := Tryd.prog) (t := 24) (e := 49) (z := .agg #[.int .i64 0, .int .i64 0, .string ⟨#[]⟩]) (size := 3) (bytes := 32) Tryd.underlying24 (by kernel_rfl) l.length (by omega) (by omega)
  have hlen : (l.length : Int) ≤ 1048576 := by omega
  go_enter Tryd.func11, Tryd.ntmps11
  go_wp2_with fail
  have hrow := RowF.made w 49 #[.int .i64 0, .int .i64 0, .string ⟨#[]⟩] (l.length * 3)
  have hbel := blw_alloc (Below.refl w.heap.size w) (.cells (madeCells #[.int .i64 0, .int .i64 0, .string ⟨#[]⟩] (l.length * 3)) 49)
  clear hmk
  go_loopw [4] (fun i wr => ∃ (k : Nat) (f : Nat → Value), k ≤ l.length ∧ i = .int .i64 k ∧ Below w.heap.size w wr ∧ RowF wr w.heap.size 49 (l.length * 3) f ∧ Hid (Fill encFn 3 l k f)) (fun i _ => l.length - (intOf i).toNat)
  case atStart => exact ⟨0, _, Nat.zero_le _, rfl, hbel, hrow, Fill.zero⟩
  case round =>
    clear hbel hrow
    obtain ⟨k, f, hk, rfl, hb, hr, hf⟩ := hrel
    by_cases hlt : k < l.length
    · obtain ⟨b, off, rfl, hbb, hc0, hc1, hc2⟩ := (hl.below hb).at_Function hlt
      have hm : k * 3 + 3 ≤ l.length * 3 := by omega
      have hgl := hr.lt
      go_wp2_with fail
      refine (toFunction_v _ _ _ _).mono ?_
      rintro e w1 ⟨rfl, hb1⟩
      have hr1 := hr.below hb1 hgl
      have hw1 : Below w.heap.size w w1 := blw hb hb1
      have hs0 := hr1.cell (i := k * 3) (by omega)
      have hz0 := hr1.frozen (k * 3)
      have hs1 := hr1.cell (i := k * 3 + 1) (by omega)
      have hz1 := hr1.frozen (k * 3 + 1)
      have hs2 := hr1.cell (i := k * 3 + 2) (by omega)
      have hz2 := hr1.frozen (k * 3 + 2)
      go_wp2_with fail
      go_roundw
      case rel => exact ⟨k + 1, _, by omega, by go_num, (((hw1.setCell (Nat.le_refl _) _).setCell (Nat.le_refl _) _).setCell (Nat.le_refl _) _), (((hr1.put (k * 3) _).put (k * 3 + 1) _).put (k * 3 + 2) _), hf.out.step hlt encFn_len (fun j u hu => by
        have hj : j < 3 := by rw [← encFn_len l[k]]; exact (List.getElem?_eq_some_iff.1 hu).1
        match j, hj, hu with
        | 0, _, hu => simp [encFn] at hu; subst hu; simp [upd]
        | 1, _, hu => simp [encFn] at hu; subst hu; simp [upd]
        | 2, _, hu => simp [encFn] at hu; subst hu; simp [upd]) (fun m hm => by rw [upd_other (by omega), upd_other (by omega), upd_other (by omega)])⟩
      case measure => simp [intOf]; omega
    · have hkk : k = l.length := by omega
      subst hkk
      go_wp2_with fail
      go_ret
      exact ⟨w.heap.size, Nat.le_refl _, rfl, hf.out.own hr, hb⟩

set_option maxHeartbeats 400000 in
theorem eqFunction_v (x0 : Int) (x1 : Int) (x2 : ByteArray) (w : World) :
    Calls Tryd.prog 34 #[.agg #[.int .i64 x0, .int .i64 x1, .string x2], .agg #[.int .i64 x0, .int .i64 x1, .string x2]] w fun e w' => e = .returned (.bool true) ∧ Below w.heap.size w w' := by
  go_enter Tryd.func34, Tryd.ntmps34
  go_wp2
  go_ret
  exact ⟨rfl, blw_alloc (blw_alloc (Below.refl _ _) _) _⟩

set_option maxHeartbeats 1000000 in
theorem eqFunctionS_any (A A' : Option Addr) (c c' : Nat) (l : List FnD) (w : World) (hl : Ls w w.heap.size encFn 3 A l) (hl' : Ls w w.heap.size encFn 3 A' l) (hn : l.length ≤ 9223372036854775807) :
    Calls Tryd.prog 13 #[.slice A l.length c, .slice A' l.length c'] w fun e w' => e = .returned (.bool true) ∧ Below w.heap.size w w' := by
  have hlen : (l.length : Int) ≤ 9223372036854775807 := by omega
  go_enter Tryd.func13, Tryd.ntmps13
  go_wp2_with fail
  go_loopw [5] (fun i wr => ∃ (k : Nat), k ≤ l.length ∧ i = .int .i64 k ∧ Below w.heap.size w wr) (fun i _ => l.length - (intOf i).toNat)
  case atStart => exact ⟨0, Nat.zero_le _, rfl, Below.refl _ _⟩
  case round =>
    obtain ⟨k, hk, rfl, hb⟩ := hrel
    by_cases hlt : k < l.length
    · obtain ⟨b, off, rfl, hbb, hc0, hc1, hc2⟩ := (hl.below hb).at_Function hlt
      obtain ⟨b', off', rfl, hbb', hd0, hd1, hd2⟩ := (hl'.below hb).at_Function hlt
      have hsz := hb.size
      have hq : b < wr.heap.size := by omega
      have hq' : b' < wr.heap.size := by omega
      have hi0 : (0 : Int) ≤ (k : Int) := by omega
      have hi1 : (k : Int) < (l.length : Int) := by omega
      go_wp2_with fail
      refine wp_region_calm (by kernel_rfl) (by kernel_rfl) ?_
      repeat (go_big_quiet_step ((go_at_call 34; exact Calls.calm (eqFunction_v _ _ _ _))))
      refine wpQuiet_nil ?_
      rintro _ ⟨⟨w1, hb1⟩, rfl⟩
      go_wp2_with fail
      go_roundw
      case rel => exact ⟨k + 1, by omega, by go_num, blw hb hb1⟩
      case measure => simp [intOf]; omega
    · have hkk : k = l.length := by omega
      subst hkk
      go_wp2_with fail
      go_ret
      exact ⟨rfl, hb⟩

end Go.Proofs.YtnjgnehiclkkoaaDoor
