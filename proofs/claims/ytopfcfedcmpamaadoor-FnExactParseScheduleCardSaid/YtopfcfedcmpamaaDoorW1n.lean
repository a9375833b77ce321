/- Contracts: the decimal text of a number. -/
import Derived.Test.YtopfcfedcmpamaaDoorA1
import Derived.Test.YtopfcfedcmpamaaDoorL
import Derived.Test.YtopfcfedcmpamaaDoorN
import Derived.Test.YtopfcfedcmpamaaDoorSB
import Derived.Lib.LaidTab
import Derived.IntWalk
import Derived.Outline
namespace Go.Proofs.YtopfcfedcmpamaaDoor
set_option linter.unusedVariables false
set_option linter.unusedSimpArgs false
open Go.RowKit Go.Shelf Go.Sort
attribute [local go_sem] Aft.cell

/-- The table of powers of ten stands. -/
abbrev Tab (w : World) : Prop := Lib.TabIs Tryd.prog w "internal/strconv.uint64pow10" .u64 Lib.pow10Tab
theorem tab_below {w w' : World} (h : Tab w) (hb : Below w.heap.size w w') : Tab w' := by
  unfold Tab Lib.TabIs at *
  unfold World.var? at *
  cases hg : Tryd.prog.globalNamed "internal/strconv.uint64pow10" with
  | none => rw [hg] at h; cases h
  | some g =>
    rw [hg] at h
    simp only [Option.bind_some] at h ⊢
    have hlt : g < w.heap.size := by
      rcases Nat.lt_or_ge g w.heap.size with h' | h'
      · exact h'
      · rw [Array.getElem?_eq_none h'] at h; cases h
    rw [hb.block g hlt]
    exact h

def digS : ByteArray := ⟨#[48, 49, 50, 51, 52, 53, 54, 55, 56, 57]⟩
theorem digS_piece {d : Nat} (h : d < 10) : (digS.extract d (d + 1)).data.toList = [UInt8.ofNat (48 + d)] := by
  have : ∀ d : Fin 10, (digS.extract d.1 (d.1 + 1)).data.toList = [UInt8.ofNat (48 + d.1)] := by decide
  exact this ⟨d, h⟩
theorem numB_one {n : Int} (h0 : 0 ≤ n) (h : n < 10) : digS.extract n.toNat (n + 1).toNat = numB n := by
  refine ba_ext ?_
  rw [show (n + 1).toNat = n.toNat + 1 by omega, digS_piece (by omega), numB_data]
  unfold Lib.itoa
  rw [if_neg (by omega), Lib.decDigits_one (by omega)]
theorem numB_more {n : Int} (h : ¬ n < 10) : numB (n / 10) ++ digS.extract (n % 10).toNat (n % 10 + 1).toNat = numB n := by
  refine ba_ext ?_
  rw [ByteArray.data_append, Array.toList_append, show (n % 10 + 1).toNat = (n % 10).toNat + 1 by omega, digS_piece (by omega), numB_data, numB_data]
  unfold Lib.itoa
  rw [if_neg (by omega), if_neg (by omega), dec_snoc (u := n.toNat) (by omega)]
  rw [show (n / 10).toNat = n.toNat / 10 by omega, show (n % 10).toNat = n.toNat % 10 by omega]
theorem numB_neg {n : Int} (h : n < 0) : (⟨#[45]⟩ : ByteArray) ++ numB (-n) = numB n := by
  refine ba_ext ?_
  rw [ByteArray.data_append, Array.toList_append, numB_data, numB_data]
  unfold Lib.itoa
  rw [if_neg (by omega), if_pos h, show (-n).toNat = n.natAbs by omega]
  rfl

set_option maxHeartbeats 400000 in
theorem l1Num_pos : ∀ (k : Nat) (n : Int), 0 ≤ n → n.toNat ≤ k → n ≤ 1000000000000 → ∀ w : World,
    Calls Tryd.prog 42 #[.int .i64 n] w fun e w' => e = .returned (.string (numB n)) ∧ Below w.heap.size w w' := by
  intro k
  induction k with
  | zero =>
    intro n h0 h1 h2 w
    have h3 : n < 10 := by omega
    have h4 : ¬ n < 0 := by omega
    have H := Lib.hid (numB_one h0 h3)
    go_enter Tryd.func42, Tryd.ntmps42
    go_wp2_with fail
    go_ret
    exact ⟨by rw [← H.out]; rfl, Below.refl _ _⟩
  | succ k ih =>
    intro n h0 h1 h2 w
    have h4 : ¬ n < 0 := by omega
    by_cases h3 : n < 10
    · have H := Lib.hid (numB_one h0 h3)
      clear ih
      go_enter Tryd.func42, Tryd.ntmps42
      go_wp2_with fail
      go_ret
      exact ⟨by rw [← H.out]; rfl, Below.refl _ _⟩
    · have h5 := Lib.hid (ih (n / 10) (by omega) (by omega) (by omega))
      have H := Lib.hid (numB_more h3)
      clear ih
      have h6 : 0 ≤ n % 10 := by omega
      have h7 : n % 10 < 10 := by omega
      have h8 : n % 10 ≤ n % 10 + 1 := by omega
      have h9 : n % 10 + 1 ≤ 10 := by omega
      have h10 : (numB (n / 10)).size + (ByteArray.extract ⟨#[48, 49, 50, 51, 52, 53, 54, 55, 56, 57]⟩ (n % 10).toNat (n % 10 + 1).toNat).size ≤ 9223372036854775807 := by
        have h11 := Lib.itoa_length_le (n / 10) (by omega) (by omega)
        rw [numB_size, ByteArray.size_extract]
        show _ + (min _ 10 - _) ≤ _
        omega
      go_enter Tryd.func42, Tryd.ntmps42
      go_wp2_with fail
      refine wp_region_calm (by kernel_rfl) (by kernel_rfl) ?_
      repeat (go_big_quiet_step ((go_at_call 42; exact Calls.calm (h5.out _))))
      refine wpQuiet_nil ?_
      rintro _ ⟨⟨w1, hb1⟩, rfl⟩
      go_wp2_with fail
      go_ret
      exact ⟨by rw [← H.out]; rfl, hb1⟩

set_option maxHeartbeats 400000 in
theorem l1Num_any (n : Int) (h0 : -1000000000000 ≤ n) (h1 : n ≤ 1000000000000) (w : World) :
    Calls Tryd.prog 42 #[.int .i64 n] w fun e w' => e = .returned (.string (numB n)) ∧ Below w.heap.size w w' := by
  by_cases h2 : n < 0
  · have H := Lib.hid (numB_neg h2)
    have h3 : (ByteArray.mk #[45]).size + (numB (-n)).size ≤ 9223372036854775807 := by
      have h11 := Lib.itoa_length_le (-n) (by omega) (by omega)
      rw [numB_size]
      show 1 + _ ≤ _
      omega
    go_enter Tryd.func42, Tryd.ntmps42
    go_wp2_with (go_at_call 42; refine (l1Num_pos _ (-n) (by omega) (Nat.le_refl _) (by omega) _).mono ?_; rintro e w1 ⟨rfl, hb1⟩)
    go_ret
    exact ⟨by rw [← H.out]; rfl, hb1⟩
  · exact l1Num_pos _ n (by omega) (Nat.le_refl _) h1 w

theorem grow_below (w : World) (k : Nat) (os : Array Obj) : Below w.heap.size w (grow (w.drewN k) os) :=
  ⟨rfl, rfl, rfl, by simp [grow], fun i hi => Array.getElem?_append_left hi⟩
theorem Itoa_any (n : Int) (h0 : Rng n) (w : World) (ht : Tab w) :
    Calls Tryd.prog 69 #[.int .i64 n] w fun e w' => e = .returned (.string (numB n)) ∧ Below w.heap.size w w' :=
  (Any.strconv_Itoa Tryd.laysM171 n h0.1 h0.2 w ht).mono fun e w' ⟨he, k, os, hw⟩ => ⟨he, hw ▸ grow_below w k os⟩

set_option maxHeartbeats 400000 in
theorem decimal_any (n : Int) (h0 : Rng n) (w : World) (ht : Tab w) :
    Calls Tryd.prog 52 #[.int .i64 n] w fun e w' => e = .returned (.string (numB n)) ∧ Below w.heap.size w w' := by
  have hI := Itoa_any n h0 w ht
  go_enter Tryd.func52, Tryd.ntmps52
  go_wp2_with (go_at_call 69; refine hI.mono ?_; rintro e w1 ⟨rfl, hb1⟩)
  go_ret
  exact ⟨rfl, hb1⟩

def fmtB (n : Int) : Bool := decide (-999999 ≤ n) && decide (n ≤ 999999)
def fmtS (n : Int) : ByteArray := if fmtB n then numB n else ⟨#[]⟩


end Go.Proofs.YtopfcfedcmpamaaDoor
