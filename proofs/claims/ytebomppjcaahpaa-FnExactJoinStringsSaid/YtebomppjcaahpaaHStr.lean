/- Contracts of the laws' helpers for lists of strings, and of the mark in a text. -/
import Derived.Test.YtebomppjcaahpaaL
import Derived.Test.YtebomppjcaahpaaRows
import Derived.Laws.BytesArg
namespace Go.Proofs.Ytebomppjcaahpaa
set_option linter.unusedVariables false
set_option linter.unusedSimpArgs false
open Go.RowKit
attribute [local go_sem] Aft.cell

/-- The text that marks a place. -/
def mkD (n : Nat) (acc : List UInt8) : List UInt8 := if n = 0 then acc else mkD (n / 10) (UInt8.ofNat (48 + n % 10) :: acc)
termination_by n
decreasing_by omega
def markB (k : Int) : ByteArray := ⟨(109 :: mkD k.toNat []).toArray⟩
theorem mkD_zero (acc : List UInt8) : mkD 0 acc = acc := by rw [mkD]; rfl
theorem mkD_step {n : Nat} (h : n ≠ 0) (acc : List UInt8) : mkD n acc = mkD (n / 10) (UInt8.ofNat (48 + n % 10) :: acc) := by
  conv => lhs; rw [mkD]
  rw [if_neg h]

theorem Ls.at_String {w : World} {B : Nat} {A : Option Addr} {l : List ByteArray} (h : Ls w B encStr 1 A l) {k : Nat} (hk : k < l.length) :
    ∃ b off, A = some ⟨b, off, none⟩ ∧ b < B ∧ w.cell? ⟨b, off + k, none⟩ = some (.string l[k]) := by
  obtain ⟨b, off, e, hb, hc⟩ := h (by omega)
  have := hc k hk 0 _ rfl
  simp only [Nat.mul_one, Nat.add_zero] at this
  exact ⟨b, off, e, hb, this⟩

set_option maxHeartbeats 1000000 in
theorem eqStringS_any (A A' : Option Addr) (c c' : Nat) (l : List ByteArray) (w : World) (hl : Ls w w.heap.size encStr 1 A l) (hl' : Ls w w.heap.size encStr 1 A' l) (hn : l.length ≤ 9223372036854775807) :
    Calls Try.prog 8 #[.slice A l.length c, .slice A' l.length c'] w fun e w' => e = .returned (.bool true) ∧ Below w.heap.size w w' := by
  have hlen : (l.length : Int) ≤ 9223372036854775807 := by omega
  go_enter Try.func8, Try.ntmps8
  go_wp2_with fail
  go_loopw [5] (fun i wr => ∃ (k : Nat), k ≤ l.length ∧ i = .int .i64 k ∧ Below w.heap.size w wr) (fun i _ => l.length - (intOf i).toNat)
  case atStart => exact ⟨0, Nat.zero_le _, rfl, Below.refl _ _⟩
  case round =>
    obtain ⟨k, hk, rfl, hb⟩ := hrel
    by_cases hlt : k < l.length
    · obtain ⟨b, off, rfl, hbb, hc0⟩ := (hl.below hb).at_String hlt
      obtain ⟨b', off', rfl, hbb', hd0⟩ := (hl'.below hb).at_String hlt
      have hsz := hb.size
      have hq : b < wr.heap.size := by omega
      have hq' : b' < wr.heap.size := by omega
      have hi0 : (0 : Int) ≤ (k : Int) := by omega
      have hi1 : (k : Int) < (l.length : Int) := by omega
      go_wp2_with fail
      refine wp_region_calm (by kernel_rfl) (by kernel_rfl) ?_
      repeat (go_big_quiet_step (fail))
      refine wpQuiet_nil ?_
      rintro _ ⟨⟨w1, hb1⟩, rfl⟩
      go_wp2_with fail
      go_roundw
      case rel => exact ⟨k + 1, by omega, by go_num, blw hb hb1⟩
      case measure => simp [intOf]; omega
    · have hkk : k = l.length := by omega
      subst hkk
      go_wp2_with fail
      go_ret
      exact ⟨rfl, hb⟩

def mkString (k0 : Int) (n : Nat) : List ByteArray := (List.range n).map fun (i : Nat) => markB (k0 + (i : Int))
theorem mkString_len (k0 : Int) (n : Nat) : (mkString k0 n).length = n := by simp [mkString]
theorem mkString_get (k0 : Int) (n k : Nat) (h : k < (mkString k0 n).length) : (mkString k0 n)[k] = markB (k0 + (k : Int)) := by simp [mkString]



end Go.Proofs.Ytebomppjcaahpaa
