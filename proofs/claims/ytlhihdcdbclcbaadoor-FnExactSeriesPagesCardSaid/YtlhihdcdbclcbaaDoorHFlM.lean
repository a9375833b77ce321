/- Contracts of the laws' marks in a list of files. -/
import Derived.Test.YtlhihdcdbclcbaaDoorHFile
import Derived.Test.YtlhihdcdbclcbaaDoorHStr
namespace Go.Proofs.YtlhihdcdbclcbaaDoor
set_option linter.unusedVariables false
set_option linter.unusedSimpArgs false
open Go.RowKit
attribute [local go_sem] Aft.cell

def mkFile (k0 : Int) (n : Nat) : List FileD := (List.range n).map fun (i : Nat) => ⟨k0 + 7 * (i : Int), k0 + 7 * (i : Int) + 1, markB (k0 + 7 * (i : Int) + 1 + 1), k0 + 7 * (i : Int) + 1 + 1 + 1, k0 + 7 * (i : Int) + 1 + 1 + 1 + 1, k0 + 7 * (i : Int) + 1 + 1 + 1 + 1 + 1, k0 + 7 * (i : Int) + 1 + 1 + 1 + 1 + 1 + 1⟩
theorem mkFile_len (k0 : Int) (n : Nat) : (mkFile k0 n).length = n := by simp [mkFile]
theorem mkFile_get (k0 : Int) (n k : Nat) (h : k < (mkFile k0 n).length) : (mkFile k0 n)[k] = ⟨k0 + 7 * (k : Int), k0 + 7 * (k : Int) + 1, markB (k0 + 7 * (k : Int) + 1 + 1), k0 + 7 * (k : Int) + 1 + 1 + 1, k0 + 7 * (k : Int) + 1 + 1 + 1 + 1, k0 + 7 * (k : Int) + 1 + 1 + 1 + 1 + 1, k0 + 7 * (k : Int) + 1 + 1 + 1 + 1 + 1 + 1⟩ := by simp [mkFile]

set_option maxHeartbeats 4000000 in
theorem markFileS_any (A : Option Addr) (c n : Nat) (k0 : Int) (w : World) (hr : Row1 w 47 7 A n) (hn : n ≤ 1048576) (h0 : 1 ≤ k0) (h1 : k0 ≤ 1099511627776) :
    Calls Tryd.prog 12 #[.slice A n c, .int .i64 k0] w (MarkS w encFile 7 A (mkFile k0 n) (k0 + 7 * (n : Int))) := by
  have hlen : (n : Int) ≤ 1048576 := by omega
  have hr0 : Hid (0 < n → ∃ g f m, A = some ⟨g, 0, none⟩ ∧ n * 7 ≤ m ∧ RowF w g 47 m f ∧ Fill encFile 7 (mkFile k0 n) 0 f) := fun h => by
    obtain ⟨g, f, m, h1, h2, h3⟩ := hr h
    exact ⟨g, f, m, h1, h3, h2, Fill.zero⟩
  clear hr
  go_enter Tryd.func12, Tryd.ntmps12
  go_wp2_with fail
  go_loopw [1, 5] (fun kk i wr => ∃ k : Nat, k ≤ n ∧ i = .int .i64 k ∧ kk = .int .i64 (k0 + 7 * (k : Int)) ∧ Wr (blkOf A) w wr ∧ Hid (0 < n → ∃ g f m, A = some ⟨g, 0, none⟩ ∧ n * 7 ≤ m ∧ RowF wr g 47 m f ∧ Fill encFile 7 (mkFile k0 n) k f)) (fun _ i _ => n - (intOf i).toNat)
  case atStart => exact ⟨0, Nat.zero_le _, rfl, by go_num, Wr.refl _ _, hr0⟩
  case round =>
    clear hr0
    obtain ⟨k, hk, rfl, rfl, hw, hrow⟩ := hrel
    by_cases hlt : k < n
    · obtain ⟨g, f, m, rfl, hm, hr, hf⟩ := hrow.out (by omega)
      clear hrow
      have Hf := Lib.hid hf
      clear hf
      have hm2 : k * 7 + 7 ≤ n * 7 := by omega
      have hkn : (k : Int) < (n : Int) := by omega
      have hs0 := hr.cell (i := k * 7) (by omega)
      have hz0 := hr.frozen (k * 7)
      have hs1 := hr.cell (i := k * 7 + 1) (by omega)
      have hz1 := hr.frozen (k * 7 + 1)
      go_wp2_with fail
      have hr1 := ((hr.put (k * 7) (.int .i64 (k0 + 7 * (k : Int)))).put (k * 7 + 1) (.int .i64 (k0 + 7 * (k : Int) + 1)))
      have hw1 := ((hw.setCell (p := ⟨g, k * 7, none⟩) (.inl ⟨0, rfl⟩) (.int .i64 (k0 + 7 * (k : Int)))).setCell (p := ⟨g, k * 7 + 1, none⟩) (.inl ⟨0, rfl⟩) (.int .i64 (k0 + 7 * (k : Int) + 1)))
      refine (markText_any (k0 + 7 * (k : Int) + 1 + 1) _ (by omega) (by omega)).mono ?_
      rintro e w2 ⟨rfl, hb2⟩
      have hr2 := hr1.below hb2 hr1.lt
      have hs2 := hr2.cell (i := k * 7 + 2) (by omega)
      have hz2 := hr2.frozen (k * 7 + 2)
      have hs3 := hr2.cell (i := k * 7 + 3) (by omega)
      have hz3 := hr2.frozen (k * 7 + 3)
      have hs4 := hr2.cell (i := k * 7 + 4) (by omega)
      have hz4 := hr2.frozen (k * 7 + 4)
      have hs5 := hr2.cell (i := k * 7 + 5) (by omega)
      have hz5 := hr2.frozen (k * 7 + 5)
      have hs6 := hr2.cell (i := k * 7 + 6) (by omega)
      have hz6 := hr2.frozen (k * 7 + 6)
      go_wp2_with fail
      go_roundw
      case rel => exact ⟨k + 1, by omega, by go_num, by go_num, ((((((hw1.trans (Wr.of_below hb2 : Wr (blkOf (some ⟨g, 0, none⟩)) _ _)).setCell (.inl ⟨0, rfl⟩) _).setCell (.inl ⟨0, rfl⟩) _).setCell (.inl ⟨0, rfl⟩) _).setCell (.inl ⟨0, rfl⟩) _).setCell (.inl ⟨0, rfl⟩) _), fun _ => ⟨g, _, m, rfl, hm, (((((hr2.put (k * 7 + 2) _).put (k * 7 + 3) _).put (k * 7 + 4) _).put (k * 7 + 5) _).put (k * 7 + 6) _), Hf.out.step (by rw [mkFile_len]; exact hlt) encFile_len (fun j u hu => by
        have hj : j < 7 := by have hq := (List.getElem?_eq_some_iff.1 hu).1; rwa [encFile_len] at hq
        rw [mkFile_get] at hu
        match j, hj, hu with
        | 0, _, hu => simp [encFile] at hu; subst hu; simp [upd]
        | 1, _, hu => simp [encFile] at hu; subst hu; simp [upd]
        | 2, _, hu => simp [encFile] at hu; subst hu; simp [upd]
        | 3, _, hu => simp [encFile] at hu; subst hu; simp [upd]
        | 4, _, hu => simp [encFile] at hu; subst hu; simp [upd]
        | 5, _, hu => simp [encFile] at hu; subst hu; simp [upd]
        | 6, _, hu => simp [encFile] at hu; subst hu; simp [upd]) (fun m hm => by rw [upd_other (by omega), upd_other (by omega), upd_other (by omega), upd_other (by omega), upd_other (by omega), upd_other (by omega), upd_other (by omega)])⟩⟩
      case measure => simp [intOf]; omega
    · have hkk : k = n := by omega
      subst hkk
      go_wp2_with fail
      go_ret
      refine ⟨rfl, hw, fun h => ?_⟩
      obtain ⟨g, f, m, rfl, hm, hr, hf⟩ := hrow.out (by rw [mkFile_len] at h; exact h)
      exact (Fill.ls (l := mkFile k0 k) (by rw [mkFile_len]; exact hf) hr encFile_len (by rw [mkFile_len]; exact hm)) h

set_option maxHeartbeats 4000000 in
theorem heldFileS_any (A : Option Addr) (c n : Nat) (k0 : Int) (w : World) (hl : Ls w w.heap.size encFile 7 A (mkFile k0 n)) (hn : n ≤ 1048576) (h0 : 1 ≤ k0) (h1 : k0 ≤ 1099511627776) :
    Calls Tryd.prog 17 #[.slice A n c, .int .i64 k0] w fun e w' => e = .returned (.int .i64 (k0 + 7 * (n : Int))) ∧ Below w.heap.size w w' := by
  have hlen : (n : Int) ≤ 1048576 := by omega
  go_enter Tryd.func17, Tryd.ntmps17
  go_wp2_with fail
  go_loopw [1, 5] (fun kk i wr => ∃ k : Nat, k ≤ n ∧ i = .int .i64 k ∧ kk = .int .i64 (k0 + 7 * (k : Int)) ∧ Below w.heap.size w wr) (fun _ i _ => n - (intOf i).toNat)
  case atStart => exact ⟨0, Nat.zero_le _, rfl, by go_num, Below.refl _ _⟩
  case round =>
    obtain ⟨k, hk, rfl, rfl, hb⟩ := hrel
    by_cases hlt : k < n
    · obtain ⟨b, off, rfl, hbb, hc0, hc1, hc2, hc3, hc4, hc5, hc6⟩ := (hl.below hb).at_File (by rw [mkFile_len]; exact hlt)
      simp only [mkFile_get] at hc0 hc1 hc2 hc3 hc4 hc5 hc6
      have hsz := hb.size
      have hq : b < wr.heap.size := by omega
      have hkn : (k : Int) < (n : Int) := by omega
      have hi0 : (0 : Int) ≤ (k : Int) := by omega
      have hbd : -9223372036854775808 ≤ k0 + 7 * (k : Int) + 1 + 1 ∧ k0 + 7 * (k : Int) + 1 + 1 ≤ 9223372036854775807 := by omega
      go_wp2_with fail
      refine wp_region_calm (by kernel_rfl) (by kernel_rfl) ?_
      repeat (go_big_quiet_step ((go_at_call 32; exact Calls.calm (markText_any (k0 + 7 * (k : Int) + 1 + 1) _ (by omega) (by omega)))))
      refine wpQuiet_nil ?_
      rintro w1 ⟨x1, hW1⟩
      have hb1 := x1.h
      rw [← hW1] at hb1
      clear hW1 x1
      replace hc3 := (hb1.cell (p := ⟨b, off + k * 7 + 3, none⟩) hq).trans hc3
      replace hc4 := (hb1.cell (p := ⟨b, off + k * 7 + 4, none⟩) hq).trans hc4
      replace hc5 := (hb1.cell (p := ⟨b, off + k * 7 + 5, none⟩) hq).trans hc5
      replace hc6 := (hb1.cell (p := ⟨b, off + k * 7 + 6, none⟩) hq).trans hc6
      go_wp2_with fail
      go_roundw
      case rel => exact ⟨k + 1, by omega, by go_num, by go_num, blw hb hb1⟩
      case measure => simp [intOf]; omega
    · have hkk : k = n := by omega
      subst hkk
      go_wp2_with fail
      go_ret
      exact ⟨rfl, hb⟩

end Go.Proofs.YtlhihdcdbclcbaaDoor
