/- Contracts of the laws' helpers for lists of strings, and of the mark in a text. -/
import Derived.Test.YtebomppjcaahpaaDoorL
import Derived.Test.YtebomppjcaahpaaDoorRows
import Derived.Laws.BytesArg
namespace Go.Proofs.YtebomppjcaahpaaDoor
set_option linter.unusedVariables false
set_option linter.unusedSimpArgs false
open Go.RowKit
attribute [local go_sem] Aft.cell

/-- The text that marks a place. -/
def mkD (n : Nat) (acc : List UInt8) : List UInt8 := if n = 0 then acc else mkD (n / 10) (UInt8.ofNat (48 + n % 10) :: acc)
termination_by n
decreasing_by omega
def markB (k : Int) : ByteArray := ⟨(109 :: mkD k.toNat []).toArray⟩
theorem mkD_zero (acc : List UInt8) : mkD 0 acc = acc := by rw [mkD]; rfl
theorem mkD_step {n : Nat} (h : n ≠ 0) (acc : List UInt8) : mkD n acc = mkD (n / 10) (UInt8.ofNat (48 + n % 10) :: acc) := by
  conv => lhs; rw [mkD]
  rw [if_neg h]

set_option maxHeartbeats 1000000 in
set_option maxRecDepth 100000 in
theorem markText_any (k : Int) (w : World) (h0 : 1 ≤ k) (h1 : k ≤ 4398046511104) :
    Calls Tryd.prog 49 #[.int .i64 k] w fun e w' => e = .returned (.string (markB k)) ∧ Below w.heap.size w w' := by
  have h2 : ¬ k ≤ 0 := by omega
  go_enter Tryd.func49, Tryd.ntmps49
  go_wp2_with fail
  go_loopw [0, 3] (fun n o wr => ∃ (m : Int) (acc : List UInt8), 0 ≤ m ∧ n = .int .i64 m ∧ o = .string ⟨acc.toArray⟩ ∧ (acc.length : Int) + m ≤ k ∧ Hid (mkD m.toNat acc = mkD k.toNat []) ∧ Below w.heap.size w wr) (fun n _ _ => (intOf n).toNat)
  case atStart => exact ⟨k, [], by omega, rfl, rfl, by simp, rfl, Below.refl _ _⟩
  case round =>
    obtain ⟨m, acc, hm0, rfl, rfl, hal, hh, hb⟩ := hrel
    by_cases hlt : 0 < m
    · have h3 : 0 ≤ m % 10 := by omega
      have h4 : m % 10 < 10 := by omega
      have h5 : m % 10 ≤ 9 := by omega
      have hcv : ∀ X : Int, (convert 94 9 (.slice (some ⟨wr.heap.size, 0, none⟩) 1 1)).run Tryd.prog (wr.alloc (.cells #[.int .u8 X] 5)) = .ok (.string (strOfNums [X])) (wr.alloc (.cells #[.int .u8 X] 5)) := fun X =>
        run_convert_bytes_arg (P := Tryd.prog) _ 94 5 Tryd.underlying94 Tryd.underlying5 wr.heap.size 0 1 1 [X] rfl (fun i hi => by
          obtain rfl : i = 0 := by omega
          simp) _ Tryd.underlying9
      have hsz : (strOfNums [48 + m % 10]).size + (ByteArray.mk acc.toArray).size ≤ 9223372036854775807 := by
        rw [strOfNums_size]
        show 1 + acc.toArray.size ≤ _
        simp only [List.size_toArray]
        omega
      go_wp2_with fail
      go_roundw
      case rel =>
        refine ⟨m / 10, UInt8.ofNat (48 + m % 10).toNat :: acc, by omega, rfl, ?_, by simp only [List.length_cons]; omega, ?_, blw_alloc hb _⟩
        · congr 1
        · have h6 := hh.out
          rw [mkD_step (by omega)] at h6
          unfold Hid
          rw [← h6, show (m / 10).toNat = m.toNat / 10 by omega, show (48 + m % 10).toNat = 48 + m.toNat % 10 by omega]
      case measure => simp [intOf]; omega
    · have hm : m = 0 := by omega
      have Hm := Lib.hid hm
      clear hm
      have hsz : (ByteArray.mk #[109]).size + (ByteArray.mk acc.toArray).size ≤ 9223372036854775807 := by
        show 1 + acc.toArray.size ≤ _
        simp only [List.size_toArray]
        omega
      go_wp2_with fail
      go_ret
      refine ⟨?_, hb⟩
      have h6 := hh.out
      rw [Hm.out] at h6
      simp only [Int.toNat_zero, mkD_zero] at h6
      rw [markB, ← h6]
      rfl

theorem Ls.at_String {w : World} {B : Nat} {A : Option Addr} {l : List ByteArray} (h : Ls w B encStr 1 A l) {k : Nat} (hk : k < l.length) :
    ∃ b off, A = some ⟨b, off, none⟩ ∧ b < B ∧ w.cell? ⟨b, off + k, none⟩ = some (.string l[k]) := by
  obtain ⟨b, off, e, hb, hc⟩ := h (by omega)
  have := hc k hk 0 _ rfl
  simp only [Nat.mul_one, Nat.add_zero] at this
  exact ⟨b, off, e, hb, this⟩

set_option maxHeartbeats 1000000 in
theorem eqStringS_any (A A' : Option Addr) (c c' : Nat) (l : List ByteArray) (w : World) (hl : Ls w w.heap.size encStr 1 A l) (hl' : Ls w w.heap.size encStr 1 A' l) (hn : l.length ≤ 9223372036854775807) :
    Calls Tryd.prog 16 #[.slice A l.length c, .slice A' l.length c'] w fun e w' => e = .returned (.bool true) ∧ Below w.heap.size w w' := by
  have hlen : (l.length : Int) ≤ 9223372036854775807 := by omega
  go_enter Tryd.func16, Tryd.ntmps16
  go_wp2_with fail
  go_loopw [5] (fun i wr => ∃ (k : Nat), k ≤ l.length ∧ i = .int .i64 k ∧ Below w.heap.size w wr) (fun i _ => l.length - (intOf i).toNat)
  case atStart => exact ⟨0, Nat.zero_le _, rfl, Below.refl _ _⟩
  case round =>
    obtain ⟨k, hk, rfl, hb⟩ := hrel
    by_cases hlt : k < l.length
    · obtain ⟨b, off, rfl, hbb, hc0⟩ := (hl.below hb).at_String hlt
      obtain ⟨b', off', rfl, hbb', hd0⟩ := (hl'.below hb).at_String hlt
      have hsz := hb.size
      have hq : b < wr.heap.size := by omega
      have hq' : b' < wr.heap.size := by omega
      have hi0 : (0 : Int) ≤ (k : Int) := by omega
      have hi1 : (k : Int) < (l.length : Int) := by omega
      go_wp2_with fail
      refine wp_region_calm (by kernel_rfl) (by kernel_rfl) ?_
      repeat (go_big_quiet_step (fail))
      refine wpQuiet_nil ?_
      rintro _ ⟨⟨w1, hb1⟩, rfl⟩
      go_wp2_with fail
      go_roundw
      case rel => exact ⟨k + 1, by omega, by go_num, blw hb hb1⟩
      case measure => simp [intOf]; omega
    · have hkk : k = l.length := by omega
      subst hkk
      go_wp2_with fail
      go_ret
      exact ⟨rfl, hb⟩

def mkString (k0 : Int) (n : Nat) : List ByteArray := (List.range n).map fun (i : Nat) => markB (k0 + (i : Int))
theorem mkString_len (k0 : Int) (n : Nat) : (mkString k0 n).length = n := by simp [mkString]
theorem mkString_get (k0 : Int) (n k : Nat) (h : k < (mkString k0 n).length) : (mkString k0 n)[k] = markB (k0 + (k : Int)) := by simp [mkString]

set_option maxHeartbeats 1000000 in
theorem markStringS_any (A : Option Addr) (c n : Nat) (k0 : Int) (w : World) (hr : Row1 w 9 1 A n) (hn : n ≤ 1048576) (h0 : 1 ≤ k0) (h1 : k0 ≤ 1099511627776) :
    Calls Tryd.prog 17 #[.slice A n c, .int .i64 k0] w (MarkS w encStr 1 A (mkString k0 n) (k0 + (n : Int))) := by
  have hlen : (n : Int) ≤ 1048576 := by omega
  have hr0 : Hid (0 < n → ∃ g f m, A = some ⟨g, 0, none⟩ ∧ n * 1 ≤ m ∧ RowF w g 9 m f ∧ Fill encStr 1 (mkString k0 n) 0 f) := fun h => by
    obtain ⟨g, f, m, h1, h2, h3⟩ := hr h
    exact ⟨g, f, m, h1, h3, h2, Fill.zero⟩
  clear hr
  go_enter Tryd.func17, Tryd.ntmps17
  go_wp2_with fail
  go_loopw [1, 5] (fun kk i wr => ∃ k : Nat, k ≤ n ∧ i = .int .i64 k ∧ kk = .int .i64 (k0 + (k : Int)) ∧ Wr (blkOf A) w wr ∧ Hid (0 < n → ∃ g f m, A = some ⟨g, 0, none⟩ ∧ n * 1 ≤ m ∧ RowF wr g 9 m f ∧ Fill encStr 1 (mkString k0 n) k f)) (fun _ i _ => n - (intOf i).toNat)
  case atStart => exact ⟨0, Nat.zero_le _, rfl, by go_num, Wr.refl _ _, hr0⟩
  case round =>
    clear hr0
    obtain ⟨k, hk, rfl, rfl, hw, hrow⟩ := hrel
    by_cases hlt : k < n
    · obtain ⟨g, f, m, rfl, hm, hr, hf⟩ := hrow.out (by omega)
      clear hrow
      have Hf := Lib.hid hf
      clear hf
      have hm2 : k * 1 + 1 ≤ n * 1 := by omega
      have hkn : (k : Int) < (n : Int) := by omega
      go_wp2_with fail
      refine (markText_any (k0 + (k : Int)) _ (by omega) (by omega)).mono ?_
      rintro e w1 ⟨rfl, hb1⟩
      have hr1 := hr.below hb1 hr.lt
      have hs0 := hr1.cell (i := k) (by omega)
      have hz0 := hr1.frozen k
      go_wp2_with fail
      go_roundw
      case rel => exact ⟨k + 1, by omega, by go_num, by go_num, (hw.trans (Wr.of_below hb1 : Wr (blkOf (some ⟨g, 0, none⟩)) _ _)).setCell (.inl ⟨0, rfl⟩) _, fun _ => ⟨g, _, m, rfl, hm, hr1.put k _, Hf.out.step (by rw [mkString_len]; exact hlt) encStr_len (fun j u hu => by
        have hj : j < 1 := by have hq := (List.getElem?_eq_some_iff.1 hu).1; rwa [encStr_len] at hq
        rw [mkString_get] at hu
        match j, hj, hu with
        | 0, _, hu => simp [encStr] at hu; subst hu; simp [upd]) (fun m hm => by rw [upd_other (by omega)])⟩⟩
      case measure => simp [intOf]; omega
    · have hkk : k = n := by omega
      subst hkk
      go_wp2_with fail
      go_ret
      refine ⟨rfl, hw, fun h => ?_⟩
      obtain ⟨g, f, m, rfl, hm, hr, hf⟩ := hrow.out (by rw [mkString_len] at h; exact h)
      exact (Fill.ls (l := mkString k0 k) (by rw [mkString_len]; exact hf) hr encStr_len (by rw [mkString_len]; exact hm)) h

set_option maxHeartbeats 1000000 in
theorem heldStringS_any (A : Option Addr) (c n : Nat) (k0 : Int) (w : World) (hl : Ls w w.heap.size encStr 1 A (mkString k0 n)) (hn : n ≤ 1048576) (h0 : 1 ≤ k0) (h1 : k0 ≤ 1099511627776) :
    Calls Tryd.prog 18 #[.slice A n c, .int .i64 k0] w fun e w' => e = .returned (.int .i64 (k0 + (n : Int))) ∧ Below w.heap.size w w' := by
  have hlen : (n : Int) ≤ 1048576 := by omega
  go_enter Tryd.func18, Tryd.ntmps18
  go_wp2_with fail
  go_loopw [1, 5] (fun kk i wr => ∃ k : Nat, k ≤ n ∧ i = .int .i64 k ∧ kk = .int .i64 (k0 + (k : Int)) ∧ Below w.heap.size w wr) (fun _ i _ => n - (intOf i).toNat)
  case atStart => exact ⟨0, Nat.zero_le _, rfl, by go_num, Below.refl _ _⟩
  case round =>
    obtain ⟨k, hk, rfl, rfl, hb⟩ := hrel
    by_cases hlt : k < n
    · obtain ⟨b, off, rfl, hbb, hc0⟩ := (hl.below hb).at_String (by rw [mkString_len]; exact hlt)
      rw [mkString_get] at hc0
      have hsz := hb.size
      have hq : b < wr.heap.size := by omega
      have hkn : (k : Int) < (n : Int) := by omega
      have hi0 : (0 : Int) ≤ (k : Int) := by omega
      have hbd : -9223372036854775808 ≤ k0 + (k : Int) ∧ k0 + (k : Int) ≤ 9223372036854775807 := by omega
      go_wp2_with fail
      refine wp_region_calm (by kernel_rfl) (by kernel_rfl) ?_
      repeat (go_big_quiet_step ((go_at_call 49; exact Calls.calm (markText_any (k0 + (k : Int)) _ (by omega) (by omega)))))
      refine wpQuiet_nil ?_
      rintro _ ⟨⟨w1, hb1⟩, rfl⟩
      go_wp2_with fail
      go_roundw
      case rel => exact ⟨k + 1, by omega, by go_num, by go_num, blw hb hb1⟩
      case measure => simp [intOf]; omega
    · have hkk : k = n := by omega
      subst hkk
      go_wp2_with fail
      go_ret
      exact ⟨rfl, hb⟩

end Go.Proofs.YtebomppjcaahpaaDoor
