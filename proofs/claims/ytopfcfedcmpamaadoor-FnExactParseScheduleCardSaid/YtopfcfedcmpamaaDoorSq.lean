/- Contracts: strings.SplitSeq and its iterator, at a separator of one byte. -/
import Derived.Test.YtopfcfedcmpamaaDoorRf
import Derived.Test.YtopfcfedcmpamaaDoorN
import Derived.Test.YtopfcfedcmpamaaDoorSB
import Derived.Lib.IndexBytes
import Derived.RangeFuncNested
import Derived.RangeFuncBound
import Derived.RangeFuncCalls
import Derived.Shelf.Abstract
import Derived.Shelf.RegionOpen
import Derived.WalkKit
import Derived.OwnWalkIn
import Derived.TacticsInMore
import Derived.LoopNIn
import Derived.LoopIn
import Derived.Handy
namespace Go.Proofs.YtopfcfedcmpamaaDoor
set_option linter.unusedVariables false
set_option linter.unusedSimpArgs false
open Go.RowKit Go.Shelf

theorem SplitSeq_any (s sep : ByteArray) (w : World) :
    Calls Tryd.prog 26 #[.string s, .string sep] w fun e w' => e = .returned (.func (.func 67) #[] #[.pointer (some ⟨w.heap.size + 1, 0, none⟩), .pointer (some ⟨w.heap.size, 0, none⟩), .pointer (some ⟨w.heap.size + 2, 0, none⟩)]) ∧
      w' = ((w.alloc (.cells #[.string s] 9)).alloc (.cells #[.string sep] 9)).alloc (.cells #[.int .i64 0] 3) := by
  have hc : Calls Tryd.prog 47 #[.string s, .string sep, .int .i64 0] w fun e w' => e = .returned (.func (.func 67) #[] #[.pointer (some ⟨w.heap.size + 1, 0, none⟩), .pointer (some ⟨w.heap.size, 0, none⟩), .pointer (some ⟨w.heap.size + 2, 0, none⟩)]) ∧
      w' = ((w.alloc (.cells #[.string s] 9)).alloc (.cells #[.string sep] 9)).alloc (.cells #[.int .i64 0] 3) := by
    go_enter Tryd.func47, Tryd.ntmps47
    go_wp2
    go_ret
    exact ⟨rfl, rfl⟩
  go_enter Tryd.func26, Tryd.ntmps26
  go_wp2_with (go_at_call 47; refine hc.mono ?_; rintro e w1 ⟨rfl, rfl⟩)
  go_ret
  exact ⟨rfl, rfl⟩

/-- how much is still to come, read off the box -/
def leftSz (W : World) (lo : Nat) : Nat := match W.cell? ⟨lo, 0, none⟩ with | some (.string r) => r.size | _ => 0
theorem leftSz_of {W : World} {lo : Nat} {r : ByteArray} (h : W.cell? ⟨lo, 0, none⟩ = some (.string r)) : leftSz W lo = r.size := by unfold leftSz; rw [h]
theorem idx_of {b : UInt8} {r : ByteArray} : Lib.indexByte r.data.toList b = if b ∈ r.data.toList then (r.data.toList.idxOf b : Int) else -1 := by
  rw [← Lib.index_one, index_one]
  simp
/-- The words that have come, then the words of what is left. -/
def SeqI (b : UInt8) (s : ByteArray) (pre : List ByteArray) (r : ByteArray) : Prop := partsA b s = pre ++ partsA b r
theorem SeqI.hit {b : UInt8} {s r : ByteArray} {pre : List ByteArray} (h : SeqI b s pre r) (hb : b ∈ r.data.toList) :
    SeqI b s (pre ++ [r.extract 0 (r.data.toList.idxOf b)]) (r.extract (r.data.toList.idxOf b + 1) r.size) := by
  unfold SeqI at h ⊢
  rw [h, List.append_assoc]
  congr 1
  have h1 := split_idxOf hb
  unfold partsA
  rw [Lib.extract_data, show ((r.data.toList.drop (r.data.toList.idxOf b + 1)).take (r.size - (r.data.toList.idxOf b + 1))) = r.data.toList.drop (r.data.toList.idxOf b + 1) from List.take_of_length_le (by rw [List.length_drop, ba_len]; omega)]
  conv => lhs; rw [h1, partsL_hit _ take_idxOf_notin]
  rw [List.map_cons, List.singleton_append]
  congr 1
  exact ba_ext (by rw [Lib.extract_data]; simp)
theorem SeqI.miss {b : UInt8} {s r : ByteArray} {pre : List ByteArray} (h : SeqI b s pre r) (hb : b ∉ r.data.toList) : partsA b s = pre ++ [r] := by
  unfold SeqI at h
  rw [h]
  unfold partsA
  rw [partsL_none hb]
  rfl

attribute [local go_sem] Oper.semAt_some
set_option maxRecDepth 100000 in
set_option maxHeartbeats 4000000 in
theorem splitSeq1_gives (s : ByteArray) (b : UInt8) (lo : Nat) (w : World) (hs : Blk w lo 9 #[.string s]) (hsep : Blk w (lo + 1) 9 #[.string ⟨#[b]⟩]) (hsave : Blk w (lo + 2) 3 #[.int .i64 0]) (hsz : w.heap.size = lo + 3) (hl : s.size ≤ 1048576) :
    GivesAll Tryd.prog 67 #[.pointer (some ⟨lo + 1, 0, none⟩), .pointer (some ⟨lo, 0, none⟩), .pointer (some ⟨lo + 2, 0, none⟩)] Value.string lo w.heap.size (partsA b s) w := by
  intro l J W hW hJ hY h0
  have b1 : Blk W lo 9 #[.string s] := (hW lo (by omega) (by omega)).trans hs
  have b2 : Blk W (lo + 1) 9 #[.string ⟨#[b]⟩] := (hW _ (by omega) (by omega)).trans hsep
  have b3 : Blk W (lo + 2) 3 #[.int .i64 0] := (hW _ (by omega) (by omega)).trans hsave
  have hc1 := b1.cell 0; have hc2 := b2.cell 0; have hc3 := b3.cell 0
  have hf1 := b1.frozen 0; have hf2 := b2.frozen 0; have hf3 := b3.frozen 0
  simp only [List.getElem?_toArray, List.getElem?_cons_zero] at hc1 hc2 hc3
  refine callsIn_of_wp Tryd.func67 rfl trivial ?_ rfl
  simp only [Tryd.ntmps67, List.size_toArray, List.length_cons, List.length_nil, Nat.reduceAdd, Nat.reduceSub, Array.replicate_succ, Array.replicate_zero, List.push_toArray, List.append_toArray, List.nil_append, List.cons_append]
  gi_wp2
  gi_loopw [] (fun wr => ∃ (pre : List ByteArray) (r : ByteArray), SeqI b s pre r ∧ r.size ≤ 1048576 ∧ Blk wr lo 9 #[.string r] ∧ Blk wr (lo + 1) 9 #[.string ⟨#[b]⟩] ∧ Blk wr (lo + 2) 3 #[.int .i64 0] ∧ J pre wr) (fun wr => leftSz wr lo)
  case atStart => exact ⟨[], s, by simp [SeqI], hl, b1, b2, b3, h0⟩
  case round =>
    obtain ⟨pre, r, hx, hr, k1, k2, k3, hJ0⟩ := hrel
    have d1 := k1.cell 0; have d2 := k2.cell 0; have d3 := k3.cell 0
    have e1 := k1.frozen 0; have e2 := k2.frozen 0; have e3 := k3.frozen 0
    simp only [List.getElem?_toArray, List.getElem?_cons_zero] at d1 d2 d3
    have hlt := k3.lt
    by_cases hb : b ∈ r.data.toList
    · obtain ⟨k, hkl, hx2, hcon⟩ : ∃ k : Nat, k < r.size ∧ Hid (SeqI b s (pre ++ [r.extract 0 k]) (r.extract (k + 1) r.size)) ∧ (∀ W', Calls Tryd.prog 36 #[.string r, .string ⟨#[b]⟩] W' fun e w' => e = .returned (.int .i64 (k : Int)) ∧ w' = W') :=
        ⟨r.data.toList.idxOf b, by rw [← ba_len]; exact List.idxOf_lt_length_of_mem hb, hx.hit hb, fun W' => by
          have h := Any.strings_Index_one Tryd.lays143 r b W'
          rw [idx_of, if_pos hb] at h
          exact h⟩
      obtain ⟨fn, tmps, assign, body, hy, hR⟩ := hY pre (r.extract 0 k) (partsA b (r.extract (k + 1) r.size)) wr (by have := hx2.out; unfold SeqI at this; rw [this]; simp) hJ0
      gi_wp2_with (refine ⟨trivial, rfl, ?_⟩; gi_at_call 36; refine (callsIn_wide.2 (hcon _)).mono ?_; rintro e w' ⟨rfl, rfl⟩)
      refine ⟨rfl, hR.mono ?_⟩
      rintro e W3 ⟨rfl, hJ3, hk3⟩
      have m1 : Blk W3 lo 9 #[.string r] := (hk3 lo (by omega) (by omega)).trans k1
      have m2 : Blk W3 (lo + 1) 9 #[.string ⟨#[b]⟩] := (hk3 _ (by omega) (by omega)).trans k2
      have m3 : Blk W3 (lo + 2) 3 #[.int .i64 0] := (hk3 _ (by omega) (by omega)).trans k3
      have c1 := m1.cell 0; have c2 := m2.cell 0; have c3 := m3.cell 0
      have g1 := m1.frozen 0; have g2 := m2.frozen 0; have g3 := m3.frozen 0
      simp only [List.getElem?_toArray, List.getElem?_cons_zero] at c1 c2 c3
      gi_wp2
      go_roundw
      case rel =>
        exact ⟨_, _, hx2.out, by rw [ByteArray.size_extract]; omega, m1.set_ 0 _, m2.far (by simp) _, m3.far (by simp) _, hJ _ _ _ hJ3 ((Wr.refl _ _).setCell (.inl ⟨Nat.le_refl _, by simp; omega⟩) _)⟩
      case measure =>
        rw [leftSz_of d1, leftSz_of (r := r.extract (k + 1) r.size) ((m1.set_ 0 _).cell 0), ByteArray.size_extract]
        omega
    · have hcon : ∀ W', Calls Tryd.prog 36 #[.string r, .string ⟨#[b]⟩] W' fun e w' => e = .returned (.int .i64 (-1)) ∧ w' = W' := fun W' => by
        have h := Any.strings_Index_one Tryd.lays143 r b W'
        rw [idx_of, if_neg hb] at h
        exact h
      have hx2 : Hid (partsA b s = pre ++ [r]) := hx.miss hb
      obtain ⟨fn, tmps, assign, body, hy, hR⟩ := hY pre r [] wr hx2.out.symm hJ0
      gi_wp2_with (refine ⟨trivial, rfl, ?_⟩; gi_at_call 36; refine (callsIn_wide.2 (hcon _)).mono ?_; rintro e w' ⟨rfl, rfl⟩)
      refine ⟨rfl, hR.mono ?_⟩
      rintro e W3 ⟨rfl, hJ3, hk3⟩
      gi_wp2
      refine bodyPost_end (results_none rfl _ _ _) rfl ?_
      exact ⟨⟨_, rfl⟩, by rw [hx2.out]; exact hJ3⟩
end Go.Proofs.YtopfcfedcmpamaaDoor
