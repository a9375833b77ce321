/- Contracts of the checksum. -/
import Derived.Test.YtopfcfedcmpamaaDoorL
import Derived.Test.YtopfcfedcmpamaaDoorRows
namespace Go.Proofs.YtopfcfedcmpamaaDoor
set_option linter.unusedVariables false
set_option linter.unusedSimpArgs false
open Go.RowKit

/-- one step of the checksum -/
def ckStep (h : Int) (c : UInt8) : Int := (41 * h + (c.toNat : Int) + 1) % 999979
def ckOf (l : List UInt8) : Int := l.foldl ckStep 7
theorem ckStep_bd (h : Int) (c : UInt8) : 0 ≤ ckStep h c ∧ ckStep h c < 999979 := by unfold ckStep; omega
theorem ckOf_bd (l : List UInt8) : 0 ≤ ckOf l ∧ ckOf l < 999979 := by
  unfold ckOf
  rcases List.eq_nil_or_concat l with rfl | ⟨l', c, rfl⟩
  · simp
  · simp only [List.concat_eq_append, List.foldl_append, List.foldl_cons, List.foldl_nil]; exact ckStep_bd _ _
theorem ckOf_take (s : ByteArray) (k : Nat) (h : k < s.size) : ckOf (s.data.toList.take (k + 1)) = ckStep (ckOf (s.data.toList.take k)) s[k] := by
  unfold ckOf
  rw [List.take_succ_eq_append_getElem (by simpa using h)]
  simp [List.foldl_append]
  rfl

end Go.Proofs.YtopfcfedcmpamaaDoor
