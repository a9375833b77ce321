/- Contracts: JoinStrings. -/
import Derived.Test.YtebomppjcaahpaaA1
import Derived.Test.YtebomppjcaahpaaL
import Derived.Test.YtebomppjcaahpaaN
import Derived.Test.YtebomppjcaahpaaSB
import Derived.Test.YtebomppjcaahpaaHStr
import Derived.Shelf.Vars
namespace Go.Proofs.Ytebomppjcaahpaa
set_option linter.unusedVariables false
set_option linter.unusedSimpArgs false
open Go.RowKit Go.Shelf
attribute [local go_sem] Aft.cell

theorem Try.Builder_Extra_156 : Builder.Extra Try.prog Try.lays156_ren where
  sizeBuilder := by kernel_rfl
  liesBuilder := by kernel_rfl
  t5 := Try.underlying5
  a5 := Try.isAgg5
  z5 := Try.sizeOf5
  v5 := Try.zeroValue5
  infoByte := by kernel_rfl
  cellsByte := by kernel_rfl
  sizeByte := by kernel_rfl
  neB5 := by decide

theorem cell_lt {w : World} {a : Addr} {v : Value} (h : w.cell? a = some v) : a.block < w.heap.size := by
  rcases Nat.lt_or_ge a.block w.heap.size with h' | h'
  · exact h'
  · simp [World.cell?, Array.getElem?_eq_none h'] at h
theorem get_data {s : ByteArray} {k : Nat} (h : k < s.size) : s.data.toList[k]'(by rw [ba_len]; exact h) = s[k] := by
  rw [Array.getElem_toList]; rfl
theorem take_snocB (s : ByteArray) (k : Nat) (h : k < s.size) : s.data.toList.take (k + 1) = s.data.toList.take k ++ [s[k]] := by
  rw [List.take_succ_eq_append_getElem (by rw [ba_len]; exact h), get_data h]
/-- Package bytealg's MaxLen is some number. -/
def Ml (w : World) : Prop := ∃ m, w.cell? ⟨0, 0, none⟩ = some (.int .i64 m)
theorem ml_below {w w' : World} (h : Ml w) (hb : Below w.heap.size w w') : Ml w' := by
  obtain ⟨m, h⟩ := h
  exact ⟨m, (hb.cell (cell_lt h)).trans h⟩
theorem ml_of_shape {W : World} (h : W.ShapedOpen Try.prog) : Ml W :=
  cell_of_shapedOpen_int (P := Try.prog) (g := 0) (t := 3) (zero := #[.int .i64 0]) h (of_decide_eq_true (by kernel_rfl)) (by kernel_rfl) rfl (by kernel_rfl) (by kernel_rfl) Try.underlying3

def hasB (b : UInt8) (s : ByteArray) : Bool := s.data.toList.contains b

set_option maxHeartbeats 400000 in
theorem l1Stands_any (s : ByteArray) (b : UInt8) (w : World) (hs : s.size ≤ 9223372036854775807) :
    Calls Try.prog 9 #[.string s, .int .u8 b.toNat] w fun e w' => e = .returned (.bool (hasB b s)) ∧ w = w' := by
  go_enter Try.func9, Try.ntmps9
  go_wp2_with fail
  go_loop [5] (fun i => ∃ k : Nat, k ≤ s.size ∧ i = .int .i64 k ∧ Hid (b ∉ s.data.toList.take k)) (fun i => s.size - (intOf i).toNat)
  case atStart => exact ⟨0, Nat.zero_le _, rfl, by simp [Hid]⟩
  case round =>
    obtain ⟨k, hk, rfl, hall⟩ := hrel
    by_cases hlt : k < s.size
    · cases hx : ((s[k].toNat : Int) == (b.toNat : Int))
      · have Hx : Hid (b ∉ s.data.toList.take (k + 1)) := by
          unfold Hid
          rw [take_snocB s k hlt, List.mem_append, List.mem_singleton, not_or]
          refine ⟨hall.out, fun h => ?_⟩
          subst h
          simp at hx
        go_wp2_with fail
        go_round
        case rel => exact ⟨k + 1, by omega, by go_num, Hx.out⟩
        case measure => simp [intOf]; omega
      · have Hx : Hid (hasB b s = true) := by
          unfold Hid hasB
          have h0 := beq_iff_eq.1 hx
          have h1 : s[k].toNat = b.toNat := by omega
          have h2 : s[k] = b := UInt8.toNat_inj.1 h1
          rw [List.contains_iff_mem, ← h2, ← get_data hlt]
          exact List.getElem_mem _
        go_wp2_with fail
        go_ret
        exact ⟨ret_bool Hx.out.symm, rfl⟩
    · have hkk : k = s.size := by omega
      subst hkk
      have Hx : Hid (hasB b s = false) := by
        unfold Hid hasB
        have h1 := hall.out
        rw [← ba_len, List.take_length] at h1
        cases hc : s.data.toList.contains b
        · rfl
        · exact absurd (List.contains_iff_mem.1 hc) h1
      go_wp2_with fail
      go_ret
      exact ⟨ret_bool Hx.out.symm, rfl⟩


def totS (l : List ByteArray) : Nat := (l.map (·.size)).sum
theorem totS_snoc {l : List ByteArray} {k : Nat} (h : k < l.length) : totS (l.take (k + 1)) = totS (l.take k) + l[k].size := by
  unfold totS
  rw [List.take_succ_eq_append_getElem h, List.map_append, List.sum_append]
  simp
theorem totS_take (l : List ByteArray) (k : Nat) : totS (l.take k) ≤ totS l := by
  have h : totS l = totS (l.take k) + totS (l.drop k) := by
    unfold totS
    rw [← List.sum_append, ← List.map_append, List.take_append_drop]
  omega

set_option maxHeartbeats 1000000 in
theorem szStringS_sz (A : Option Addr) (c : Nat) (l : List ByteArray) (left : Int) (w : World) (hl : Ls w w.heap.size encStr 1 A l) (hn : l.length ≤ maxLen) (hok : ∀ s ∈ l, s.size ≤ maxLen) (h0 : 0 ≤ left) (h1 : left ≤ 1048576) :
    Calls Try.prog 4 #[.slice A l.length c, .int .i64 left] w (SzS w left (l.length + totS l ≤ 1048576)) := by
  unfold maxLen at hn
  have hlen : (l.length : Int) ≤ 9223372036854775807 := by omega
  by_cases h : (l.length : Int) ≤ left
  · go_enter Try.func4, Try.ntmps4
    go_wp2_with fail
    go_loopw [1, 5] (fun lf i wr => ∃ (k : Nat) (r : Int), k ≤ l.length ∧ i = .int .i64 k ∧ lf = .int .i64 r ∧ 0 ≤ r ∧ r ≤ left ∧ Hid (r + (l.length : Int) + (totS (l.take k) : Int) = left) ∧ Below w.heap.size w wr) (fun _ i _ => l.length - (intOf i).toNat)
    case atStart => exact ⟨0, left - l.length, Nat.zero_le _, rfl, rfl, by omega, by omega, by unfold Hid; simp [totS] <;> omega, Below.refl _ _⟩
    case round =>
      obtain ⟨k, r, hk, rfl, rfl, hr0, hr1, hs, hb⟩ := hrel
      by_cases hlt : k < l.length
      · obtain ⟨b, off, rfl, hbb, hc0⟩ := (hl.below hb).at_String hlt
        have hml := hok l[k] (List.getElem_mem hlt)
        unfold maxLen at hml
        have Ht := Lib.hid (totS_snoc hlt)
        by_cases hq : (l[k].size : Int) ≤ r
        · have hq2 : 0 ≤ r - (l[k].size : Int) := by omega
          have hq3 : r - (l[k].size : Int) ≤ left := by omega
          go_wp2_with fail
          go_roundw
          case rel => exact ⟨k + 1, r - l[k].size, by omega, by go_num, rfl, hq2, hq3, by have := hs.out; have := Ht.out; unfold Hid; rw [Ht.out]; omega, hb⟩
          case measure => simp [intOf]; omega
        · have hq2 : r - (l[k].size : Int) < 0 := by omega
          go_wp2_with fail
          go_ret
          exact ⟨-1, rfl, by omega, by omega, fun h => absurd h (by omega), hb⟩
      · have hkk : k = l.length := by omega
        subst hkk
        go_wp2_with fail
        go_ret
        exact ⟨r, rfl, hr1, by omega, fun _ => by have := hs.out; rw [List.take_length] at this; omega, hb⟩
  · go_enter Try.func4, Try.ntmps4
    go_wp2_with fail
    go_ret
    exact ⟨-1, rfl, by omega, by omega, fun h => absurd h (by omega), Below.refl _ _⟩

set_option maxHeartbeats 1000000 in
theorem toStringS_any (A : Option Addr) (c : Nat) (l : List ByteArray) (w : World) (hl : Ls w w.heap.size encStr 1 A l) (hn : l.length ≤ 1048576) :
    Calls Try.prog 6 #[.slice A l.length c] w (MadeS w 9 encStr 1 l) := by
  have hmk := run_make_of (P := Try.prog) (t := 22) (e := 9) (z := .string ⟨#[]⟩) (size := 1) (bytes := 16) Try.underlying22 (by kernel_rfl) l.length (by omega) (by omega)
  have hlen : (l.length : Int) ≤ 1048576 := by omega
  go_enter Try.func6, Try.ntmps6
  go_wp2_with fail
  have hrow := RowF.made w 9 #[.string ⟨#[]⟩] (l.length * 1)
  have hbel := blw_alloc (Below.refl w.heap.size w) (.cells (madeCells #[.string ⟨#[]⟩] (l.length * 1)) 9)
  rw [Nat.mul_one] at hrow hbel
  clear hmk
  go_loopw [4] (fun i wr => ∃ (k : Nat) (f : Nat → Value), k ≤ l.length ∧ i = .int .i64 k ∧ Below w.heap.size w wr ∧ RowF wr w.heap.size 9 l.length f ∧ Hid (Fill encStr 1 l k f)) (fun i _ => l.length - (intOf i).toNat)
  case atStart => exact ⟨0, _, Nat.zero_le _, rfl, hbel, hrow, Fill.zero⟩
  case round =>
    clear hbel hrow
    obtain ⟨k, f, hk, rfl, hb, hr, hf⟩ := hrel
    by_cases hlt : k < l.length
    · obtain ⟨b, off, rfl, hbb, hc0⟩ := (hl.below hb).at_String hlt
      have hs0 := hr.cell (i := k) hlt
      have hz0 := hr.frozen k
      go_wp2_with fail
      go_roundw
      case rel => exact ⟨k + 1, _, by omega, by go_num, hb.setCell (Nat.le_refl _) _, hr.put k _, hf.out.step hlt encStr_len (fun j u hu => by
        have hj : j < 1 := by rw [← encStr_len l[k]]; exact (List.getElem?_eq_some_iff.1 hu).1
        match j, hj, hu with
        | 0, _, hu => simp [encStr] at hu; subst hu; simp [upd]) (fun m hm => by rw [upd_other (by omega)])⟩
      case measure => simp [intOf]; omega
    · have hkk : k = l.length := by omega
      subst hkk
      go_wp2_with fail
      go_ret
      exact ⟨w.heap.size, Nat.le_refl _, rfl, hf.out.own (by rw [Nat.mul_one]; exact hr), hb⟩

end Go.Proofs.Ytebomppjcaahpaa
