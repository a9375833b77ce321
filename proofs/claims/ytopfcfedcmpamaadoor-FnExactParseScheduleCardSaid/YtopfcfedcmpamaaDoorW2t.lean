/- Contracts: the text of a record. -/
import Derived.Test.YtopfcfedcmpamaaDoorW2
import Derived.Test.YtopfcfedcmpamaaDoorHRecord
import Derived.Test.YtopfcfedcmpamaaDoorW1u
namespace Go.Proofs.YtopfcfedcmpamaaDoor
set_option linter.unusedVariables false
set_option linter.unusedSimpArgs false
open Go.RowKit
attribute [local go_sem] Aft.cell

theorem recB_bd {id series made : Int} {l : List Ev} (h : recB id series made l = true) :
    1 ≤ id ∧ id ≤ 999 ∧ 1 ≤ series ∧ series ≤ 99 ∧ 0 ≤ made ∧ made ≤ 20000 ∧ l.length ≤ 6 ∧ ∀ i (hi : i < l.length), 1 ≤ l[i].1 ∧ l[i].1 ≤ 9 ∧ 0 ≤ l[i].2 ∧ l[i].2 ≤ 20000 := by
  simp [recB, evsB] at h
  obtain ⟨⟨⟨⟨h1, h2⟩, h3⟩, h4⟩, h5⟩ := h
  refine ⟨by omega, by omega, by omega, by omega, by omega, by omega, h4, fun i hi => ?_⟩
  have h6 := h5 i hi
  simp [evAtB, hi, evB] at h6
  omega
theorem lit1 : (ByteArray.mk #[115]).size = 1 := rfl
theorem lit2 : (ByteArray.mk #[64]).size = 1 := rfl
theorem lit3 : (ByteArray.mk #[32]).size = 1 := rfl
def recT0 (id series made : Int) : ByteArray := numB id ++ ⟨#[115]⟩ ++ numB series ++ ⟨#[64]⟩ ++ numB made
def evT (e : Ev) : ByteArray := ⟨#[32]⟩ ++ numB e.1 ++ ⟨#[64]⟩ ++ numB e.2
/-- the text of a record with its first k events -/
def recTK (id series made : Int) (l : List Ev) (k : Nat) : ByteArray := (l.take k).foldl (fun s e => s ++ evT e) (recT0 id series made)
def recTx (id series made : Int) (l : List Ev) : ByteArray := recTK id series made l l.length
theorem recTK_step (id series made : Int) (l : List Ev) (k : Nat) (h : k < l.length) : recTK id series made l (k + 1) = recTK id series made l k ++ evT l[k] := by
  unfold recTK
  rw [List.take_succ_eq_append_getElem h, List.foldl_append]
  rfl
theorem recTK_size (id series made : Int) (l : List Ev) : ∀ (k : Nat), k ≤ l.length → (numB id).size ≤ 21 → (numB series).size ≤ 21 → (numB made).size ≤ 21 →
    (∀ i (hi : i < l.length), (numB l[i].1).size ≤ 21 ∧ (numB l[i].2).size ≤ 21) → (recTK id series made l k).size ≤ 65 + 44 * k
  | 0, _, h1, h2, h3, _ => by
    show (recT0 id series made).size ≤ _
    unfold recT0
    simp only [ByteArray.size_append, lit1, lit2]
    omega
  | k + 1, hk, h1, h2, h3, h4 => by
    have h5 := recTK_size id series made l k (by omega) h1 h2 h3 h4
    have h6 := h4 k (by omega)
    rw [recTK_step _ _ _ _ _ (by omega)]
    unfold evT
    simp only [ByteArray.size_append, lit2, lit3]
    omega

set_option maxHeartbeats 2000000 in
theorem recordText_any (id series made : Int) (A : Option Addr) (c : Nat) (l : List Ev) (w : World) (hl : Ls w w.heap.size encEv 2 A l) (hrec : recB id series made l = true) (ht : Tab w) :
    Calls Tryd.prog 28 #[.agg #[.int .i64 id, .int .i64 series, .int .i64 made, .slice A l.length c]] w fun e w' => e = .returned (.string (recTx id series made l)) ∧ Below w.heap.size w w' := by
  obtain ⟨r1, r2, r3, r4, r5, r6, r7, r8⟩ := recB_bd hrec
  have hlen : (l.length : Int) ≤ 6 := by omega
  have z1 := numB_len id (by omega) (by omega)
  have z2 := numB_len series (by omega) (by omega)
  have z3 := numB_len made (by omega) (by omega)
  have s0 : (numB id).size + (ByteArray.mk #[115]).size ≤ 9223372036854775807 := by
    simp only [ByteArray.size_append, lit1, lit2, lit3]
    omega
  have s1 : (numB id ++ ByteArray.mk #[115]).size + (numB series).size ≤ 9223372036854775807 := by
    simp only [ByteArray.size_append, lit1, lit2, lit3]
    omega
  have s2 : (numB id ++ ByteArray.mk #[115] ++ numB series).size + (ByteArray.mk #[64]).size ≤ 9223372036854775807 := by
    simp only [ByteArray.size_append, lit1, lit2, lit3]
    omega
  have s3 : (numB id ++ ByteArray.mk #[115] ++ numB series ++ ByteArray.mk #[64]).size + (numB made).size ≤ 9223372036854775807 := by
    simp only [ByteArray.size_append, lit1, lit2, lit3]
    omega
  have Hev := Lib.hid r8
  clear r8
  have hB := blw_alloc (Below.refl w.heap.size w) (.cells #[.int .i64 id, .int .i64 series, .int .i64 made, .slice A l.length c] 24)
  have hl0 := (hl.below hB).more hB.size
  have hr0 : (w.alloc (.cells #[.int .i64 id, .int .i64 series, .int .i64 made, .slice A l.length c] 24)).cell? ⟨w.heap.size, 0, none⟩ = some (.int .i64 id) := by simp
  have hr1 : (w.alloc (.cells #[.int .i64 id, .int .i64 series, .int .i64 made, .slice A l.length c] 24)).cell? ⟨w.heap.size, 1, none⟩ = some (.int .i64 series) := by simp
  have hr2 : (w.alloc (.cells #[.int .i64 id, .int .i64 series, .int .i64 made, .slice A l.length c] 24)).cell? ⟨w.heap.size, 2, none⟩ = some (.int .i64 made) := by simp
  have hr3 : (w.alloc (.cells #[.int .i64 id, .int .i64 series, .int .i64 made, .slice A l.length c] 24)).cell? ⟨w.heap.size, 3, none⟩ = some (.slice A l.length c) := by simp
  have hs : w.heap.size < (w.alloc (.cells #[.int .i64 id, .int .i64 series, .int .i64 made, .slice A l.length c] 24)).heap.size := by simp
  have ht0 := tab_below ht hB
  go_enter Tryd.func28, Tryd.ntmps28
  go_wp2_with fail
  generalize (w.alloc (.cells #[.int .i64 id, .int .i64 series, .int .i64 made, .slice A l.length c] 24)) = W0 at *
  refine wp_region_calm (by kernel_rfl) (by kernel_rfl) ?_
  repeat (go_big_quiet_step ((go_at_call 52; exact Calls.calm (decimal_any _ ⟨by omega, by omega⟩ _ (tab_below ht0 (Aft.h _))))))
  refine wpQuiet_nil ?_
  rintro w1 ⟨x1, hW1⟩
  have hb1 := x1.h
  rw [← hW1] at hb1
  clear hW1 x1
  have hB1 := blw hB hb1
  have ht1 := tab_below ht0 hb1
  have hl1 := (hl0.below hb1).more hb1.size
  replace hr0 : w1.cell? ⟨w.heap.size, 0, none⟩ = some (.int .i64 id) := (hb1.cell (p := ⟨w.heap.size, 0, none⟩) hs).trans hr0
  replace hr1 : w1.cell? ⟨w.heap.size, 1, none⟩ = some (.int .i64 series) := (hb1.cell (p := ⟨w.heap.size, 1, none⟩) hs).trans hr1
  replace hr2 : w1.cell? ⟨w.heap.size, 2, none⟩ = some (.int .i64 made) := (hb1.cell (p := ⟨w.heap.size, 2, none⟩) hs).trans hr2
  replace hr3 : w1.cell? ⟨w.heap.size, 3, none⟩ = some (.slice A l.length c) := (hb1.cell (p := ⟨w.heap.size, 3, none⟩) hs).trans hr3
  replace hs := Nat.lt_of_lt_of_le hs hb1.size
  go_wp2_with fail
  go_loopw [3, 22] (fun v i wr => ∃ k : Nat, k ≤ l.length ∧ i = .int .i64 k ∧ v = .string (recTK id series made l k) ∧ Below w1.heap.size w1 wr) (fun _ i _ => l.length - (intOf i).toNat)
  case atStart => exact ⟨0, Nat.zero_le _, rfl, rfl, Below.refl _ _⟩
  case round =>
    obtain ⟨k, hk, rfl, rfl, hb⟩ := hrel
    replace hr0 : wr.cell? ⟨w.heap.size, 0, none⟩ = some (.int .i64 id) := (hb.cell (p := ⟨w.heap.size, 0, none⟩) hs).trans hr0
    replace hr1 : wr.cell? ⟨w.heap.size, 1, none⟩ = some (.int .i64 series) := (hb.cell (p := ⟨w.heap.size, 1, none⟩) hs).trans hr1
    replace hr2 : wr.cell? ⟨w.heap.size, 2, none⟩ = some (.int .i64 made) := (hb.cell (p := ⟨w.heap.size, 2, none⟩) hs).trans hr2
    replace hr3 : wr.cell? ⟨w.heap.size, 3, none⟩ = some (.slice A l.length c) := (hb.cell (p := ⟨w.heap.size, 3, none⟩) hs).trans hr3
    replace hs := Nat.lt_of_lt_of_le hs hb.size
    by_cases hlt : k < l.length
    · obtain ⟨b, off, rfl, hbb, hc0, hc1⟩ := (hl1.below hb).at_Event hlt
      obtain ⟨e1, e2, e3, e4⟩ := Hev.out k hlt
      have z4 := numB_len l[k].1 (by omega) (by omega)
      have z5 := numB_len l[k].2 (by omega) (by omega)
      have z6 := recTK_size id series made l k (by omega) z1 z2 z3 (fun i hi => by obtain ⟨f1, f2, f3, f4⟩ := Hev.out i hi; exact ⟨numB_len _ (by omega) (by omega), numB_len _ (by omega) (by omega)⟩)
      have HK := Lib.hid (recTK_step id series made l k hlt)
      have hszz := hb.size
      have hq : b < wr.heap.size := by omega
      have hq2 : b < wr.heap.size + 1 := by omega
      have hs2 : w.heap.size < wr.heap.size + 1 := by omega
      have ht2 := tab_below (tab_below ht1 hb) (blw_alloc (Below.refl wr.heap.size wr) (.cells #[.int .i64 l[k].1, .int .i64 l[k].2] 46))
      have q0 : (ByteArray.mk #[32]).size + (numB l[k].1).size ≤ 9223372036854775807 := by
        simp only [ByteArray.size_append, lit1, lit2, lit3]
        omega
      have q1 : (ByteArray.mk #[32] ++ numB l[k].1).size + (ByteArray.mk #[64]).size ≤ 9223372036854775807 := by
        simp only [ByteArray.size_append, lit1, lit2, lit3]
        omega
      have q2 : (ByteArray.mk #[32] ++ numB l[k].1 ++ ByteArray.mk #[64]).size + (numB l[k].2).size ≤ 9223372036854775807 := by
        simp only [ByteArray.size_append, lit1, lit2, lit3]
        omega
      have q9 : (recTK id series made l k).size + (ByteArray.mk #[32] ++ numB l[k].1 ++ ByteArray.mk #[64] ++ numB l[k].2).size ≤ 9223372036854775807 := by
        simp only [ByteArray.size_append, lit1, lit2, lit3]
        omega
      go_wp2_with fail
      refine wp_region_calm (by kernel_rfl) (by kernel_rfl) ?_
      repeat (go_big_quiet_step ((go_at_call 52; exact Calls.calm (decimal_any _ ⟨by omega, by omega⟩ _ (tab_below ht2 (Aft.h _))))))
      refine wpQuiet_nil ?_
      rintro w2 ⟨x2, hW2⟩
      have hb2 := x2.h
      rw [← hW2] at hb2
      clear hW2 x2
      go_wp2_with fail
      go_roundw
      case rel => exact ⟨k + 1, by omega, by go_num, by rw [HK.out]; rfl, blw (blw_alloc hb _) hb2⟩
      case measure => simp [intOf]; omega
    · have hkk : k = l.length := by omega
      subst hkk
      go_wp2_with fail
      go_ret
      exact ⟨rfl, blw hB1 hb⟩

set_option maxHeartbeats 2000000 in
theorem l2Text_any (id series made : Int) (A : Option Addr) (c : Nat) (l : List Ev) (w : World) (hl : Ls w w.heap.size encEv 2 A l) (hrec : recB id series made l = true) :
    Calls Tryd.prog 23 #[.agg #[.int .i64 id, .int .i64 series, .int .i64 made, .slice A l.length c]] w fun e w' => e = .returned (.string (recTx id series made l)) ∧ Below w.heap.size w w' := by
  obtain ⟨r1, r2, r3, r4, r5, r6, r7, r8⟩ := recB_bd hrec
  have hlen : (l.length : Int) ≤ 6 := by omega
  have z1 := numB_len id (by omega) (by omega)
  have z2 := numB_len series (by omega) (by omega)
  have z3 := numB_len made (by omega) (by omega)
  have s0 : (numB id).size + (ByteArray.mk #[115]).size ≤ 9223372036854775807 := by
    simp only [ByteArray.size_append, lit1, lit2, lit3]
    omega
  have s1 : (numB id ++ ByteArray.mk #[115]).size + (numB series).size ≤ 9223372036854775807 := by
    simp only [ByteArray.size_append, lit1, lit2, lit3]
    omega
  have s2 : (numB id ++ ByteArray.mk #[115] ++ numB series).size + (ByteArray.mk #[64]).size ≤ 9223372036854775807 := by
    simp only [ByteArray.size_append, lit1, lit2, lit3]
    omega
  have s3 : (numB id ++ ByteArray.mk #[115] ++ numB series ++ ByteArray.mk #[64]).size + (numB made).size ≤ 9223372036854775807 := by
    simp only [ByteArray.size_append, lit1, lit2, lit3]
    omega
  have Hev := Lib.hid r8
  clear r8
  have hB := blw_alloc (Below.refl w.heap.size w) (.cells #[.int .i64 id, .int .i64 series, .int .i64 made, .slice A l.length c] 24)
  have hl0 := (hl.below hB).more hB.size
  have hr0 : (w.alloc (.cells #[.int .i64 id, .int .i64 series, .int .i64 made, .slice A l.length c] 24)).cell? ⟨w.heap.size, 0, none⟩ = some (.int .i64 id) := by simp
  have hr1 : (w.alloc (.cells #[.int .i64 id, .int .i64 series, .int .i64 made, .slice A l.length c] 24)).cell? ⟨w.heap.size, 1, none⟩ = some (.int .i64 series) := by simp
  have hr2 : (w.alloc (.cells #[.int .i64 id, .int .i64 series, .int .i64 made, .slice A l.length c] 24)).cell? ⟨w.heap.size, 2, none⟩ = some (.int .i64 made) := by simp
  have hr3 : (w.alloc (.cells #[.int .i64 id, .int .i64 series, .int .i64 made, .slice A l.length c] 24)).cell? ⟨w.heap.size, 3, none⟩ = some (.slice A l.length c) := by simp
  have hs : w.heap.size < (w.alloc (.cells #[.int .i64 id, .int .i64 series, .int .i64 made, .slice A l.length c] 24)).heap.size := by simp
  go_enter Tryd.func23, Tryd.ntmps23
  go_wp2_with fail
  generalize (w.alloc (.cells #[.int .i64 id, .int .i64 series, .int .i64 made, .slice A l.length c] 24)) = W0 at *
  refine wp_region_calm (by kernel_rfl) (by kernel_rfl) ?_
  repeat (go_big_quiet_step ((go_at_call 42; exact Calls.calm (l1Num_any _ (by omega) (by omega) _))))
  refine wpQuiet_nil ?_
  rintro w1 ⟨x1, hW1⟩
  have hb1 := x1.h
  rw [← hW1] at hb1
  clear hW1 x1
  have hB1 := blw hB hb1
  have hl1 := (hl0.below hb1).more hb1.size
  replace hr0 : w1.cell? ⟨w.heap.size, 0, none⟩ = some (.int .i64 id) := (hb1.cell (p := ⟨w.heap.size, 0, none⟩) hs).trans hr0
  replace hr1 : w1.cell? ⟨w.heap.size, 1, none⟩ = some (.int .i64 series) := (hb1.cell (p := ⟨w.heap.size, 1, none⟩) hs).trans hr1
  replace hr2 : w1.cell? ⟨w.heap.size, 2, none⟩ = some (.int .i64 made) := (hb1.cell (p := ⟨w.heap.size, 2, none⟩) hs).trans hr2
  replace hr3 : w1.cell? ⟨w.heap.size, 3, none⟩ = some (.slice A l.length c) := (hb1.cell (p := ⟨w.heap.size, 3, none⟩) hs).trans hr3
  replace hs := Nat.lt_of_lt_of_le hs hb1.size
  go_wp2_with fail
  go_loopw [3, 4] (fun v i wr => ∃ k : Nat, k ≤ l.length ∧ i = .int .i64 k ∧ v = .string (recTK id series made l k) ∧ Below w1.heap.size w1 wr) (fun _ i _ => l.length - (intOf i).toNat)
  case atStart => exact ⟨0, Nat.zero_le _, rfl, rfl, Below.refl _ _⟩
  case round =>
    obtain ⟨k, hk, rfl, rfl, hb⟩ := hrel
    replace hr0 : wr.cell? ⟨w.heap.size, 0, none⟩ = some (.int .i64 id) := (hb.cell (p := ⟨w.heap.size, 0, none⟩) hs).trans hr0
    replace hr1 : wr.cell? ⟨w.heap.size, 1, none⟩ = some (.int .i64 series) := (hb.cell (p := ⟨w.heap.size, 1, none⟩) hs).trans hr1
    replace hr2 : wr.cell? ⟨w.heap.size, 2, none⟩ = some (.int .i64 made) := (hb.cell (p := ⟨w.heap.size, 2, none⟩) hs).trans hr2
    replace hr3 : wr.cell? ⟨w.heap.size, 3, none⟩ = some (.slice A l.length c) := (hb.cell (p := ⟨w.heap.size, 3, none⟩) hs).trans hr3
    replace hs := Nat.lt_of_lt_of_le hs hb.size
    by_cases hlt : k < l.length
    · obtain ⟨b, off, rfl, hbb, hc0, hc1⟩ := (hl1.below hb).at_Event hlt
      obtain ⟨e1, e2, e3, e4⟩ := Hev.out k hlt
      have z4 := numB_len l[k].1 (by omega) (by omega)
      have z5 := numB_len l[k].2 (by omega) (by omega)
      have z6 := recTK_size id series made l k (by omega) z1 z2 z3 (fun i hi => by obtain ⟨f1, f2, f3, f4⟩ := Hev.out i hi; exact ⟨numB_len _ (by omega) (by omega), numB_len _ (by omega) (by omega)⟩)
      have HK := Lib.hid (recTK_step id series made l k hlt)
      have hszz := hb.size
      have hq : b < wr.heap.size := by omega
      have ht2 : True := trivial
      have q0 : (recTK id series made l k).size + (ByteArray.mk #[32]).size ≤ 9223372036854775807 := by
        simp only [ByteArray.size_append, lit1, lit2, lit3]
        omega
      have q1 : (recTK id series made l k ++ ByteArray.mk #[32]).size + (numB l[k].1).size ≤ 9223372036854775807 := by
        simp only [ByteArray.size_append, lit1, lit2, lit3]
        omega
      have q2 : (recTK id series made l k ++ ByteArray.mk #[32] ++ numB l[k].1).size + (ByteArray.mk #[64]).size ≤ 9223372036854775807 := by
        simp only [ByteArray.size_append, lit1, lit2, lit3]
        omega
      have q3 : (recTK id series made l k ++ ByteArray.mk #[32] ++ numB l[k].1 ++ ByteArray.mk #[64]).size + (numB l[k].2).size ≤ 9223372036854775807 := by
        simp only [ByteArray.size_append, lit1, lit2, lit3]
        omega
      go_wp2_with fail
      refine wp_region_calm (by kernel_rfl) (by kernel_rfl) ?_
      repeat (go_big_quiet_step ((go_at_call 42; exact Calls.calm (l1Num_any _ (by omega) (by omega) _))))
      refine wpQuiet_nil ?_
      rintro w2 ⟨x2, hW2⟩
      have hb2 := x2.h
      rw [← hW2] at hb2
      clear hW2 x2
      go_wp2_with fail
      go_roundw
      case rel => exact ⟨k + 1, by omega, by go_num, by rw [HK.out]; simp only [evT, ByteArray.append_assoc], blw hb hb2⟩
      case measure => simp [intOf]; omega
    · have hkk : k = l.length := by omega
      subst hkk
      go_wp2_with fail
      go_ret
      exact ⟨rfl, blw hB1 hb⟩

def recTS (id series made : Int) (l : List Ev) : ByteArray := if recB id series made l then recTx id series made l else ⟨#[]⟩



end Go.Proofs.YtopfcfedcmpamaaDoor
