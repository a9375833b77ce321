/- Contracts of the laws' helpers for slices of ints. -/
import Derived.Test.YtopfcfedcmpamaaDoorL
import Derived.Test.YtopfcfedcmpamaaDoorRows
namespace Go.Proofs.YtopfcfedcmpamaaDoor
set_option linter.unusedVariables false
set_option linter.unusedSimpArgs false
open Go.RowKit
attribute [local go_sem] Aft.cell

theorem Ls.at_Int {w : World} {B : Nat} {A : Option Addr} {l : List Int} (h : Ls w B encInt 1 A l) {k : Nat} (hk : k < l.length) :
    ∃ b off, A = some ⟨b, off, none⟩ ∧ b < B ∧ w.cell? ⟨b, off + k, none⟩ = some (.int .i64 l[k]) := by
  obtain ⟨b, off, e, hb, hc⟩ := h (by omega)
  exact ⟨b, off, e, hb, by simpa using hc k hk 0 _ rfl⟩

def hasB (l : List Int) (x : Int) : Bool := l.contains x
theorem hasB_yes {l : List Int} {x : Int} (k : Nat) (h : k < l.length) (e : l[k] = x) : hasB l x = true := by
  unfold hasB
  rw [List.contains_iff_mem, ← e]
  exact List.getElem_mem h
theorem hasB_no {l : List Int} {x : Int} (h : ∀ i (hi : i < l.length), i < l.length → l[i] ≠ x) : hasB l x = false := by
  unfold hasB
  cases hcn : l.contains x
  · rfl
  · rw [List.contains_iff_mem] at hcn
    obtain ⟨i, hi, e⟩ := List.mem_iff_getElem.1 hcn
    exact absurd e (h i hi hi)


def mkInt (k0 : Int) (n : Nat) : List Int := (List.range n).map fun (i : Nat) => k0 + (i : Int)
theorem mkInt_len (k0 : Int) (n : Nat) : (mkInt k0 n).length = n := by simp [mkInt]
theorem mkInt_get (k0 : Int) (n k : Nat) (h : k < (mkInt k0 n).length) : (mkInt k0 n)[k] = k0 + (k : Int) := by simp [mkInt]



end Go.Proofs.YtopfcfedcmpamaaDoor
