/- Contracts of the laws' helpers for slices of ints. -/
import Derived.Test.YtlhihdcdbclcbaaDoorL
import Derived.Test.YtlhihdcdbclcbaaDoorRows
namespace Go.Proofs.YtlhihdcdbclcbaaDoor
set_option linter.unusedVariables false
set_option linter.unusedSimpArgs false
open Go.RowKit
attribute [local go_sem] Aft.cell

theorem Ls.at_Int {w : World} {B : Nat} {A : Option Addr} {l : List Int} (h : Ls w B encInt 1 A l) {k : Nat} (hk : k < l.length) :
    ∃ b off, A = some ⟨b, off, none⟩ ∧ b < B ∧ w.cell? ⟨b, off + k, none⟩ = some (.int .i64 l[k]) := by
  obtain ⟨b, off, e, hb, hc⟩ := h (by omega)
  exact ⟨b, off, e, hb, by simpa using hc k hk 0 _ rfl⟩

def hasB (l : List Int) (x : Int) : Bool := l.contains x
theorem hasB_yes {l : List Int} {x : Int} (k : Nat) (h : k < l.length) (e : l[k] = x) : hasB l x = true := by
  unfold hasB
  rw [List.contains_iff_mem, ← e]
  exact List.getElem_mem h
theorem hasB_no {l : List Int} {x : Int} (h : ∀ i (hi : i < l.length), i < l.length → l[i] ≠ x) : hasB l x = false := by
  unfold hasB
  cases hcn : l.contains x
  · rfl
  · rw [List.contains_iff_mem] at hcn
    obtain ⟨i, hi, e⟩ := List.mem_iff_getElem.1 hcn
    exact absurd e (h i hi hi)

set_option maxHeartbeats 1000000 in
theorem eqIntS_any (A A' : Option Addr) (c c' : Nat) (l : List Int) (w : World) (hl : Ls w w.heap.size encInt 1 A l) (hl' : Ls w w.heap.size encInt 1 A' l) (hn : l.length ≤ 9223372036854775807) :
    Calls Tryd.prog 20 #[.slice A l.length c, .slice A' l.length c'] w fun e w' => e = .returned (.bool true) ∧ Below w.heap.size w w' := by
  have hlen : (l.length : Int) ≤ 9223372036854775807 := by omega
  go_enter Tryd.func20, Tryd.ntmps20
  go_wp2_with fail
  go_loopw [5] (fun i wr => ∃ (k : Nat), k ≤ l.length ∧ i = .int .i64 k ∧ Below w.heap.size w wr) (fun i _ => l.length - (intOf i).toNat)
  case atStart => exact ⟨0, Nat.zero_le _, rfl, Below.refl _ _⟩
  case round =>
    obtain ⟨k, hk, rfl, hb⟩ := hrel
    by_cases hlt : k < l.length
    · obtain ⟨b, off, rfl, hbb, hc0⟩ := (hl.below hb).at_Int hlt
      obtain ⟨b', off', rfl, hbb', hd0⟩ := (hl'.below hb).at_Int hlt
      have hsz := hb.size
      have hq : b < wr.heap.size := by omega
      have hq' : b' < wr.heap.size := by omega
      have hi0 : (0 : Int) ≤ (k : Int) := by omega
      have hi1 : (k : Int) < (l.length : Int) := by omega
      go_wp2_with fail
      refine wp_region_calm (by kernel_rfl) (by kernel_rfl) ?_
      repeat (go_big_quiet_step (fail))
      refine wpQuiet_nil ?_
      rintro _ ⟨⟨w1, hb1⟩, rfl⟩
      go_wp2_with fail
      go_roundw
      case rel => exact ⟨k + 1, by omega, by go_num, blw hb hb1⟩
      case measure => simp [intOf]; omega
    · have hkk : k = l.length := by omega
      subst hkk
      go_wp2_with fail
      go_ret
      exact ⟨rfl, hb⟩

def mkInt (k0 : Int) (n : Nat) : List Int := (List.range n).map fun (i : Nat) => k0 + (i : Int)
theorem mkInt_len (k0 : Int) (n : Nat) : (mkInt k0 n).length = n := by simp [mkInt]
theorem mkInt_get (k0 : Int) (n k : Nat) (h : k < (mkInt k0 n).length) : (mkInt k0 n)[k] = k0 + (k : Int) := by simp [mkInt]

set_option maxHeartbeats 1000000 in
theorem markIntS_any (A : Option Addr) (c n : Nat) (k0 : Int) (w : World) (hr : Row1 w 3 1 A n) (hn : n ≤ 1048576) (h0 : 0 ≤ k0) (h1 : k0 ≤ 1099511627776) :
    Calls Tryd.prog 21 #[.slice A n c, .int .i64 k0] w (MarkS w encInt 1 A (mkInt k0 n) (k0 + (n : Int))) := by
  have hlen : (n : Int) ≤ 1048576 := by omega
  have hr0 : Hid (0 < n → ∃ g f m, A = some ⟨g, 0, none⟩ ∧ n * 1 ≤ m ∧ RowF w g 3 m f ∧ Fill encInt 1 (mkInt k0 n) 0 f) := fun h => by
    obtain ⟨g, f, m, h1, h2, h3⟩ := hr h
    exact ⟨g, f, m, h1, h3, h2, Fill.zero⟩
  clear hr
  go_enter Tryd.func21, Tryd.ntmps21
  go_wp2_with fail
  go_loopw [1, 5] (fun kk i wr => ∃ k : Nat, k ≤ n ∧ i = .int .i64 k ∧ kk = .int .i64 (k0 + (k : Int)) ∧ Wr (blkOf A) w wr ∧ Hid (0 < n → ∃ g f m, A = some ⟨g, 0, none⟩ ∧ n * 1 ≤ m ∧ RowF wr g 3 m f ∧ Fill encInt 1 (mkInt k0 n) k f)) (fun _ i _ => n - (intOf i).toNat)
  case atStart => exact ⟨0, Nat.zero_le _, rfl, by go_num, Wr.refl _ _, hr0⟩
  case round =>
    clear hr0
    obtain ⟨k, hk, rfl, rfl, hw, hrow⟩ := hrel
    by_cases hlt : k < n
    · obtain ⟨g, f, m, rfl, hm, hr, hf⟩ := hrow.out (by omega)
      clear hrow
      have Hf := Lib.hid hf
      clear hf
      have hkn : (k : Int) < (n : Int) := by omega
      have hs0 := hr.cell (i := k) (by omega)
      have hz0 := hr.frozen k
      go_wp2_with fail
      go_roundw
      case rel => exact ⟨k + 1, by omega, by go_num, by go_num, hw.setCell (.inl ⟨0, rfl⟩) _, fun _ => ⟨g, _, m, rfl, hm, hr.put k _, Hf.out.step (by rw [mkInt_len]; exact hlt) encInt_len (fun j u hu => by
        have hj : j < 1 := by have hq := (List.getElem?_eq_some_iff.1 hu).1; rwa [encInt_len] at hq
        rw [mkInt_get] at hu
        match j, hj, hu with
        | 0, _, hu => simp [encInt] at hu; subst hu; simp [upd]) (fun m hm => by rw [upd_other (by omega)])⟩⟩
      case measure => simp [intOf]; omega
    · have hkk : k = n := by omega
      subst hkk
      go_wp2_with fail
      go_ret
      refine ⟨rfl, hw, fun h => ?_⟩
      obtain ⟨g, f, m, rfl, hm, hr, hf⟩ := hrow.out (by rw [mkInt_len] at h; exact h)
      exact (Fill.ls (l := mkInt k0 k) (by rw [mkInt_len]; exact hf) hr encInt_len (by rw [mkInt_len]; exact hm)) h

set_option maxHeartbeats 1000000 in
theorem heldIntS_any (A : Option Addr) (c n : Nat) (k0 : Int) (w : World) (hl : Ls w w.heap.size encInt 1 A (mkInt k0 n)) (hn : n ≤ 1048576) (h0 : 0 ≤ k0) (h1 : k0 ≤ 1099511627776) :
    Calls Tryd.prog 22 #[.slice A n c, .int .i64 k0] w fun e w' => e = .returned (.int .i64 (k0 + (n : Int))) ∧ w = w' := by
  have hlen : (n : Int) ≤ 1048576 := by omega
  go_enter Tryd.func22, Tryd.ntmps22
  go_wp2_with fail
  go_loop [1, 5] (fun kk i => ∃ k : Nat, k ≤ n ∧ i = .int .i64 k ∧ kk = .int .i64 (k0 + (k : Int))) (fun _ i => n - (intOf i).toNat)
  case atStart => exact ⟨0, Nat.zero_le _, rfl, by go_num⟩
  case round =>
    obtain ⟨k, hk, rfl, rfl⟩ := hrel
    by_cases hlt : k < n
    · obtain ⟨b, off, rfl, hbb, hc0⟩ := hl.at_Int (by rw [mkInt_len]; exact hlt)
      rw [mkInt_get] at hc0
      have hkn : (k : Int) < (n : Int) := by omega
      go_wp2_with fail
      go_round
      case rel => exact ⟨k + 1, by omega, by go_num, by go_num⟩
      case measure => simp [intOf]; omega
    · have hkk : k = n := by omega
      subst hkk
      go_wp2_with fail
      go_ret
      exact ⟨rfl, rfl⟩

end Go.Proofs.YtlhihdcdbclcbaaDoor
