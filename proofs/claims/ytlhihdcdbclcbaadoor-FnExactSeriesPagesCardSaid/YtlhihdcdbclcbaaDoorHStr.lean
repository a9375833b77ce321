/- Contracts of the laws' helpers for lists of strings, and of the mark in a text. -/
import Derived.Test.YtlhihdcdbclcbaaDoorL
import Derived.Test.YtlhihdcdbclcbaaDoorRows
import Derived.Laws.BytesArg
namespace Go.Proofs.YtlhihdcdbclcbaaDoor
set_option linter.unusedVariables false
set_option linter.unusedSimpArgs false
open Go.RowKit
attribute [local go_sem] Aft.cell

/-- The text that marks a place. -/
def mkD (n : Nat) (acc : List UInt8) : List UInt8 := if n = 0 then acc else mkD (n / 10) (UInt8.ofNat (48 + n % 10) :: acc)
termination_by n
decreasing_by omega
def markB (k : Int) : ByteArray := ⟨(109 :: mkD k.toNat []).toArray⟩
theorem mkD_zero (acc : List UInt8) : mkD 0 acc = acc := by rw [mkD]; rfl
theorem mkD_step {n : Nat} (h : n ≠ 0) (acc : List UInt8) : mkD n acc = mkD (n / 10) (UInt8.ofNat (48 + n % 10) :: acc) := by
  conv => lhs; rw [mkD]
  rw [if_neg h]

set_option maxHeartbeats 1000000 in
set_option maxRecDepth 100000 in
theorem markText_any (k : Int) (w : World) (h0 : 1 ≤ k) (h1 : k ≤ 4398046511104) :
    Calls Tryd.prog 32 #[.int .i64 k] w fun e w' => e = .returned (.string (markB k)) ∧ Below w.heap.size w w' := by
  have h2 : ¬ k ≤ 0 := by omega
  go_enter Tryd.func32, Tryd.ntmps32
  go_wp2_with fail
  go_loopw [0, 3] (fun n o wr => ∃ (m : Int) (acc : List UInt8), 0 ≤ m ∧ n = .int .i64 m ∧ o = .string ⟨acc.toArray⟩ ∧ (acc.length : Int) + m ≤ k ∧ Hid (mkD m.toNat acc = mkD k.toNat []) ∧ Below w.heap.size w wr) (fun n _ _ => (intOf n).toNat)
  case atStart => exact ⟨k, [], by omega, rfl, rfl, by simp, rfl, Below.refl _ _⟩
  case round =>
    obtain ⟨m, acc, hm0, rfl, rfl, hal, hh, hb⟩ := hrel
    by_cases hlt : 0 < m
    · have h3 : 0 ≤ m % 10 := by omega
      have h4 : m % 10 < 10 := by omega
      have h5 : m % 10 ≤ 9 := by omega
      have hcv : ∀ X : Int, (convert 67 9 (.slice (some ⟨wr.heap.size, 0, none⟩) 1 1)).run Tryd.prog (wr.alloc (.cells #[.int .u8 X] 5)) = .ok (.string (strOfNums [X])) (wr.alloc (.cells #[.int .u8 X] 5)) := fun X =>
        run_convert_bytes_arg (P := Tryd.prog) _ 67 5 Tryd.underlying67 Tryd.underlying5 wr.heap.size 0 1 1 [X] rfl (fun i hi => by
          obtain rfl : i = 0 := by omega
          simp) _ Tryd.underlying9
      have hsz : (strOfNums [48 + m % 10]).size + (ByteArray.mk acc.toArray).size ≤ 9223372036854775807 := by
        rw [strOfNums_size]
        show 1 + acc.toArray.size ≤ _
        simp only [List.size_toArray]
        omega
      go_wp2_with fail
      go_roundw
      case rel =>
        refine ⟨m / 10, UInt8.ofNat (48 + m % 10).toNat :: acc, by omega, rfl, ?_, by simp only [List.length_cons]; omega, ?_, blw_alloc hb _⟩
        · congr 1
        · have h6 := hh.out
          rw [mkD_step (by omega)] at h6
          unfold Hid
          rw [← h6, show (m / 10).toNat = m.toNat / 10 by omega, show (48 + m % 10).toNat = 48 + m.toNat % 10 by omega]
      case measure => simp [intOf]; omega
    · have hm : m = 0 := by omega
      have Hm := Lib.hid hm
      clear hm
      have hsz : (ByteArray.mk #[109]).size + (ByteArray.mk acc.toArray).size ≤ 9223372036854775807 := by
        show 1 + acc.toArray.size ≤ _
        simp only [List.size_toArray]
        omega
      go_wp2_with fail
      go_ret
      refine ⟨?_, hb⟩
      have h6 := hh.out
      rw [Hm.out] at h6
      simp only [Int.toNat_zero, mkD_zero] at h6
      rw [markB, ← h6]
      rfl

theorem Ls.at_String {w : World} {B : Nat} {A : Option Addr} {l : List ByteArray} (h : Ls w B encStr 1 A l) {k : Nat} (hk : k < l.length) :
    ∃ b off, A = some ⟨b, off, none⟩ ∧ b < B ∧ w.cell? ⟨b, off + k, none⟩ = some (.string l[k]) := by
  obtain ⟨b, off, e, hb, hc⟩ := h (by omega)
  have := hc k hk 0 _ rfl
  simp only [Nat.mul_one, Nat.add_zero] at this
  exact ⟨b, off, e, hb, this⟩


def mkString (k0 : Int) (n : Nat) : List ByteArray := (List.range n).map fun (i : Nat) => markB (k0 + (i : Int))
theorem mkString_len (k0 : Int) (n : Nat) : (mkString k0 n).length = n := by simp [mkString]
theorem mkString_get (k0 : Int) (n k : Nat) (h : k < (mkString k0 n).length) : (mkString k0 n)[k] = markB (k0 + (k : Int)) := by simp [mkString]



end Go.Proofs.YtlhihdcdbclcbaaDoor
