/- Contracts of the laws' helpers for File. -/
import Derived.Test.YtlhihdcdbclcbaaDoorL
import Derived.Test.YtlhihdcdbclcbaaDoorRows
namespace Go.Proofs.YtlhihdcdbclcbaaDoor
set_option linter.unusedVariables false
set_option linter.unusedSimpArgs false
open Go.RowKit
attribute [local go_sem] Aft.cell

theorem Ls.at_File {w : World} {B : Nat} {A : Option Addr} {l : List FileD} (h : Ls w B encFile 7 A l) {k : Nat} (hk : k < l.length) :
    ∃ b off, A = some ⟨b, off, none⟩ ∧ b < B ∧ w.cell? ⟨b, off + k * 7, none⟩ = some (.int .i64 l[k].id) ∧ w.cell? ⟨b, off + k * 7 + 1, none⟩ = some (.int .i64 l[k].series) ∧ w.cell? ⟨b, off + k * 7 + 2, none⟩ = some (.string l[k].title) ∧ w.cell? ⟨b, off + k * 7 + 3, none⟩ = some (.int .i64 l[k].opened) ∧ w.cell? ⟨b, off + k * 7 + 4, none⟩ = some (.int .i64 l[k].closed) ∧ w.cell? ⟨b, off + k * 7 + 5, none⟩ = some (.int .i64 l[k].state) ∧ w.cell? ⟨b, off + k * 7 + 6, none⟩ = some (.int .i64 l[k].pages) := by
  obtain ⟨b, off, e, hb, hc⟩ := h (by omega)
  exact ⟨b, off, e, hb, hc k hk 0 _ rfl, hc k hk 1 _ rfl, hc k hk 2 _ rfl, hc k hk 3 _ rfl, hc k hk 4 _ rfl, hc k hk 5 _ rfl, hc k hk 6 _ rfl⟩

set_option maxHeartbeats 400000 in
theorem toFile_v (x0 : Int) (x1 : Int) (x2 : ByteArray) (x3 : Int) (x4 : Int) (x5 : Int) (x6 : Int) (w : World) :
    Calls Tryd.prog 25 #[.agg #[.int .i64 x0, .int .i64 x1, .string x2, .int .i64 x3, .int .i64 x4, .int .i64 x5, .int .i64 x6]] w fun e w' => e = .returned (.agg #[.int .i64 x0, .int .i64 x1, .string x2, .int .i64 x3, .int .i64 x4, .int .i64 x5, .int .i64 x6]) ∧ Below w.heap.size w w' := by
  go_enter Tryd.func25, Tryd.ntmps25
  go_wp2
  refine bodyPost_ret (v := .agg #[.int .i64 x0, .int .i64 x1, .string x2, .int .i64 x3, .int .i64 x4, .int .i64 x5, .int .i64 x6]) (by simp [results, Tryd.results25, go_sem]) rfl ⟨rfl, ?_⟩
  exact blw_alloc (blw_alloc (blw_alloc (Below.refl _ _) _) _) _

set_option maxHeartbeats 1000000 in
theorem toFileS_any (A : Option Addr) (c : Nat) (l : List FileD) (w : World) (hl : Ls w w.heap.size encFile 7 A l) (hn : l.length ≤ 1048576) :
    Calls Tryd.prog 8 #[.slice A l.length c] w (MadeS w 47 encFile 7 l) := by
  have hmk := run_make_of (P := Tryd.prog) (t := 27) (e := 47) (z := .agg #[.int .i64 0, .int .i64 0, .string ⟨#[]⟩, .int .i64 0, .int .i64 0, .int .i64 0, .int .i64 0]) (size := 7) (bytes := 64) Tryd.underlying27 (by kernel_rfl) l.length (by omega) (by omega)
  have hlen : (l.length : Int) ≤ 1048576 := by omega
  go_enter Tryd.func8, Tryd.ntmps8
  go_wp2_with fail
  have hrow := RowF.made w 47 #[.int .i64 0, .int .i64 0, .string ⟨#[]⟩, .int .i64 0, .int .i64 0, .int .i64 0, .int .i64 0] (l.length * 7)
  have hbel := blw_alloc (Below.refl w.heap.size w) (.cells (madeCells #[.int .i64 0, .int .i64 0, .string ⟨#[]⟩, .int .i64 0, .int .i64 0, .int .i64 0, .int .i64 0] (l.length * 7)) 47)
  clear hmk
  go_loopw [4] (fun i wr => ∃ (k : Nat) (f : Nat → Value), k ≤ l.length ∧ i = .int .i64 k ∧ Below w.heap.size w wr ∧ RowF wr w.heap.size 47 (l.length * 7) f ∧ Hid (Fill encFile 7 l k f)) (fun i _ => l.length - (intOf i).toNat)
  case atStart => exact ⟨0, _, Nat.zero_le _, rfl, hbel, hrow, Fill.zero⟩
  case round =>
    clear hbel hrow
    obtain ⟨k, f, hk, rfl, hb, hr, hf⟩ := hrel
    by_cases hlt : k < l.length
    · obtain ⟨b, off, rfl, hbb, hc0, hc1, hc2, hc3, hc4, hc5, hc6⟩ := (hl.below hb).at_File hlt
      have hm : k * 7 + 7 ≤ l.length * 7 := by omega
      have hgl := hr.lt
      go_wp2_with fail
      refine (toFile_v _ _ _ _ _ _ _ _).mono ?_
      rintro e w1 ⟨rfl, hb1⟩
      have hr1 := hr.below hb1 hgl
      have hw1 : Below w.heap.size w w1 := blw hb hb1
      have hs0 := hr1.cell (i := k * 7) (by omega)
      have hz0 := hr1.frozen (k * 7)
      have hs1 := hr1.cell (i := k * 7 + 1) (by omega)
      have hz1 := hr1.frozen (k * 7 + 1)
      have hs2 := hr1.cell (i := k * 7 + 2) (by omega)
      have hz2 := hr1.frozen (k * 7 + 2)
      have hs3 := hr1.cell (i := k * 7 + 3) (by omega)
      have hz3 := hr1.frozen (k * 7 + 3)
      have hs4 := hr1.cell (i := k * 7 + 4) (by omega)
      have hz4 := hr1.frozen (k * 7 + 4)
      have hs5 := hr1.cell (i := k * 7 + 5) (by omega)
      have hz5 := hr1.frozen (k * 7 + 5)
      have hs6 := hr1.cell (i := k * 7 + 6) (by omega)
      have hz6 := hr1.frozen (k * 7 + 6)
      go_wp2_with fail
      go_roundw
      case rel => exact ⟨k + 1, _, by omega, by go_num, (((((((hw1.setCell (Nat.le_refl _) _).setCell (Nat.le_refl _) _).setCell (Nat.le_refl _) _).setCell (Nat.le_refl _) _).setCell (Nat.le_refl _) _).setCell (Nat.le_refl _) _).setCell (Nat.le_refl _) _), (((((((hr1.put (k * 7) _).put (k * 7 + 1) _).put (k * 7 + 2) _).put (k * 7 + 3) _).put (k * 7 + 4) _).put (k * 7 + 5) _).put (k * 7 + 6) _), hf.out.step hlt encFile_len (fun j u hu => by
        have hj : j < 7 := by rw [← encFile_len l[k]]; exact (List.getElem?_eq_some_iff.1 hu).1
        match j, hj, hu with
        | 0, _, hu => simp [encFile] at hu; subst hu; simp [upd]
        | 1, _, hu => simp [encFile] at hu; subst hu; simp [upd]
        | 2, _, hu => simp [encFile] at hu; subst hu; simp [upd]
        | 3, _, hu => simp [encFile] at hu; subst hu; simp [upd]
        | 4, _, hu => simp [encFile] at hu; subst hu; simp [upd]
        | 5, _, hu => simp [encFile] at hu; subst hu; simp [upd]
        | 6, _, hu => simp [encFile] at hu; subst hu; simp [upd]) (fun m hm => by rw [upd_other (by omega), upd_other (by omega), upd_other (by omega), upd_other (by omega), upd_other (by omega), upd_other (by omega), upd_other (by omega)])⟩
      case measure => simp [intOf]; omega
    · have hkk : k = l.length := by omega
      subst hkk
      go_wp2_with fail
      go_ret
      exact ⟨w.heap.size, Nat.le_refl _, rfl, hf.out.own hr, hb⟩

set_option maxHeartbeats 400000 in
theorem eqFile_v (x0 : Int) (x1 : Int) (x2 : ByteArray) (x3 : Int) (x4 : Int) (x5 : Int) (x6 : Int) (w : World) :
    Calls Tryd.prog 31 #[.agg #[.int .i64 x0, .int .i64 x1, .string x2, .int .i64 x3, .int .i64 x4, .int .i64 x5, .int .i64 x6], .agg #[.int .i64 x0, .int .i64 x1, .string x2, .int .i64 x3, .int .i64 x4, .int .i64 x5, .int .i64 x6]] w fun e w' => e = .returned (.bool true) ∧ Below w.heap.size w w' := by
  go_enter Tryd.func31, Tryd.ntmps31
  go_wp2
  go_ret
  exact ⟨rfl, blw_alloc (blw_alloc (Below.refl _ _) _) _⟩

set_option maxHeartbeats 1000000 in
theorem eqFileS_any (A A' : Option Addr) (c c' : Nat) (l : List FileD) (w : World) (hl : Ls w w.heap.size encFile 7 A l) (hl' : Ls w w.heap.size encFile 7 A' l) (hn : l.length ≤ 9223372036854775807) :
    Calls Tryd.prog 11 #[.slice A l.length c, .slice A' l.length c'] w fun e w' => e = .returned (.bool true) ∧ Below w.heap.size w w' := by
  have hlen : (l.length : Int) ≤ 9223372036854775807 := by omega
  go_enter Tryd.func11, Tryd.ntmps11
  go_wp2_with fail
  go_loopw [5] (fun i wr => ∃ (k : Nat), k ≤ l.length ∧ i = .int .i64 k ∧ Below w.heap.size w wr) (fun i _ => l.length - (intOf i).toNat)
  case atStart => exact ⟨0, Nat.zero_le _, rfl, Below.refl _ _⟩
  case round =>
    obtain ⟨k, hk, rfl, hb⟩ := hrel
    by_cases hlt : k < l.length
    · obtain ⟨b, off, rfl, hbb, hc0, hc1, hc2, hc3, hc4, hc5, hc6⟩ := (hl.below hb).at_File hlt
      obtain ⟨b', off', rfl, hbb', hd0, hd1, hd2, hd3, hd4, hd5, hd6⟩ := (hl'.below hb).at_File hlt
      have hsz := hb.size
      have hq : b < wr.heap.size := by omega
      have hq' : b' < wr.heap.size := by omega
      have hi0 : (0 : Int) ≤ (k : Int) := by omega
      have hi1 : (k : Int) < (l.length : Int) := by omega
      go_wp2_with fail
      refine wp_region_calm (by kernel_rfl) (by kernel_rfl) ?_
      repeat (go_big_quiet_step ((go_at_call 31; exact Calls.calm (eqFile_v _ _ _ _ _ _ _ _))))
      refine wpQuiet_nil ?_
      rintro _ ⟨⟨w1, hb1⟩, rfl⟩
      go_wp2_with fail
      go_roundw
      case rel => exact ⟨k + 1, by omega, by go_num, blw hb hb1⟩
      case measure => simp [intOf]; omega
    · have hkk : k = l.length := by omega
      subst hkk
      go_wp2_with fail
      go_ret
      exact ⟨rfl, hb⟩

end Go.Proofs.YtlhihdcdbclcbaaDoor
