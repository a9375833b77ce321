/- Contracts of the laws' helpers for lists of strings, and of the mark in a text. -/
import Derived.Test.YtopfcfedcmpamaaDoorL
import Derived.Test.YtopfcfedcmpamaaDoorRows
import Derived.Laws.BytesArg
namespace Go.Proofs.YtopfcfedcmpamaaDoor
set_option linter.unusedVariables false
set_option linter.unusedSimpArgs false
open Go.RowKit
attribute [local go_sem] Aft.cell

/-- The text that marks a place. -/
def mkD (n : Nat) (acc : List UInt8) : List UInt8 := if n = 0 then acc else mkD (n / 10) (UInt8.ofNat (48 + n % 10) :: acc)
termination_by n
decreasing_by omega
def markB (k : Int) : ByteArray := ⟨(109 :: mkD k.toNat []).toArray⟩
theorem mkD_zero (acc : List UInt8) : mkD 0 acc = acc := by rw [mkD]; rfl
theorem mkD_step {n : Nat} (h : n ≠ 0) (acc : List UInt8) : mkD n acc = mkD (n / 10) (UInt8.ofNat (48 + n % 10) :: acc) := by
  conv => lhs; rw [mkD]
  rw [if_neg h]

theorem Ls.at_String {w : World} {B : Nat} {A : Option Addr} {l : List ByteArray} (h : Ls w B encStr 1 A l) {k : Nat} (hk : k < l.length) :
    ∃ b off, A = some ⟨b, off, none⟩ ∧ b < B ∧ w.cell? ⟨b, off + k, none⟩ = some (.string l[k]) := by
  obtain ⟨b, off, e, hb, hc⟩ := h (by omega)
  have := hc k hk 0 _ rfl
  simp only [Nat.mul_one, Nat.add_zero] at this
  exact ⟨b, off, e, hb, this⟩


def mkString (k0 : Int) (n : Nat) : List ByteArray := (List.range n).map fun (i : Nat) => markB (k0 + (i : Int))
theorem mkString_len (k0 : Int) (n : Nat) : (mkString k0 n).length = n := by simp [mkString]
theorem mkString_get (k0 : Int) (n k : Nat) (h : k < (mkString k0 n).length) : (mkString k0 n)[k] = markB (k0 + (k : Int)) := by simp [mkString]



end Go.Proofs.YtopfcfedcmpamaaDoor
