/- Contracts: AppendChecksum, VerifyChecksum. -/
import Derived.Test.YtopfcfedcmpamaaDoorW1s
namespace Go.Proofs.YtopfcfedcmpamaaDoor
set_option linter.unusedVariables false
set_option linter.unusedSimpArgs false
open Go.RowKit Go.Shelf
attribute [local go_sem] Aft.cell

theorem numB_len (n : Int) (h0 : -9223372036854775808 ≤ n) (h1 : n ≤ 9223372036854775807) : (numB n).size ≤ 21 := by
  rw [numB_size]; exact Lib.itoa_length_le n h0 h1


end Go.Proofs.YtopfcfedcmpamaaDoor
