/- Contracts: ClosedSince. -/
import Derived.Test.YtlhihdcdbclcbaaDoorW5r
import Derived.Test.YtlhihdcdbclcbaaDoorHInt
namespace Go.Proofs.YtlhihdcdbclcbaaDoor
set_option linter.unusedVariables false
set_option linter.unusedSimpArgs false
open Go.RowKit
attribute [local go_sem] Aft.cell

set_option maxHeartbeats 1000000 in
theorem insSort0 (A : Option Addr) (c : Nat) (w : World) :
    Calls Tryd.prog 58 #[.slice A 0 c, .int .i64 0, .int .i64 0, .func (.func 41) #[] #[]] w fun e w' => (∃ v, e = .returned v) ∧ w = w' := by
  go_enter Tryd.func58, Tryd.ntmps58
  go_wp2_with fail
  go_loopw [8] (fun i wr => i = .int .i64 1 ∧ w = wr) (fun _ _ => 0)
  case atStart => exact ⟨rfl, rfl⟩
  case round =>
    obtain ⟨rfl, rfl⟩ := hrel
    go_wp2_with fail
    first | (refine bodyPost_end (results_none rfl _ _ _) rfl ?_) | ((try simp only [Exit.inBlock, Exit.then]); refine bodyPost_end (results_none rfl _ _ _) rfl ?_) | (refine bodyPost_ret (results_none rfl _ _ _) rfl ?_)
    exact ⟨⟨_, rfl⟩, rfl⟩
theorem insSort_all (A : Option Addr) (c base : Nat) (l : List FileD) (w : World) (hv : Vec w base 47 encFile 7 (.slice A l.length c) l) (hn : l.length ≤ 10) (hb0 : base ≤ w.heap.size) :
    Calls Tryd.prog 58 #[.slice A l.length c, .int .i64 0, .int .i64 (l.length : Int), .func (.func 41) #[] #[]] w fun e w' => (∃ v, e = .returned v) ∧ Vec w' base 47 encFile 7 (.slice A l.length c) (srtC l l.length) ∧ Wr (blkOf A) w w' := by
  by_cases h0 : 0 < l.length
  · obtain ⟨g, rfl⟩ := hv.some h0
    exact insSort_any g c base l w hv hn hb0
  · have h1 : l = [] := List.length_eq_zero_iff.1 (by omega)
    subst h1
    refine (insSort0 A c w).mono ?_
    rintro e w' ⟨hv', rfl⟩
    exact ⟨hv', hv, Wr.refl _ _⟩
set_option maxHeartbeats 1000000 in
theorem stable_all (A : Option Addr) (c base : Nat) (l : List FileD) (w : World) (hv : Vec w base 47 encFile 7 (.slice A l.length c) l) (hn : l.length ≤ 10) (hb0 : base ≤ w.heap.size) :
    Calls Tryd.prog 51 #[.slice A l.length c, .int .i64 (l.length : Int), .func (.func 41) #[] #[]] w fun e w' => (∃ v, e = .returned v) ∧ Vec w' base 47 encFile 7 (.slice A l.length c) (srtC l l.length) ∧ Wr (blkOf A) w w' := by
  have hI := insSort_all A c base l w hv hn hb0
  have hlen : ¬ (20 : Int) ≤ (l.length : Int) := by omega
  have hlen2 : ¬ (20 : Int) < (l.length : Int) := by omega
  clear hv
  go_enter Tryd.func51, Tryd.ntmps51
  go_wp2_with fail
  go_loopw [7, 8] (fun a b wr => a = .int .i64 0 ∧ b = .int .i64 20 ∧ w = wr) (fun _ _ _ => 0)
  case atStart => exact ⟨rfl, rfl, rfl⟩
  case round =>
    obtain ⟨rfl, rfl, rfl⟩ := hrel
    go_wp2_with fail
    refine hI.mono ?_
    rintro e w1 ⟨⟨v, rfl⟩, hv1, hw1⟩
    go_wp2_with fail
    go_loopw [6] (fun b wr => b = .int .i64 20 ∧ w1 = wr) (fun _ _ => 0)
    case atStart => exact ⟨rfl, rfl⟩
    case round =>
      obtain ⟨rfl, rfl⟩ := hrel
      go_wp2_with fail
      first | (refine bodyPost_end (results_none rfl _ _ _) rfl ?_) | ((try simp only [Exit.inBlock, Exit.then]); refine bodyPost_end (results_none rfl _ _ _) rfl ?_) | (refine bodyPost_ret (results_none rfl _ _ _) rfl ?_)
      exact ⟨⟨_, rfl⟩, hv1, hw1⟩
set_option maxHeartbeats 1000000 in
theorem sort_all (A : Option Addr) (c base : Nat) (l : List FileD) (w : World) (hv : Vec w base 47 encFile 7 (.slice A l.length c) l) (hn : l.length ≤ 10) (hb0 : base ≤ w.heap.size) :
    Calls Tryd.prog 40 #[.slice A l.length c, .func (.func 41) #[] #[]] w fun e w' => (∃ v, e = .returned v) ∧ Vec w' base 47 encFile 7 (.slice A l.length c) (srtC l l.length) ∧ Wr (blkOf A) w w' := by
  have hI := stable_all A c base l w hv hn hb0
  clear hv
  go_enter Tryd.func40, Tryd.ntmps40
  go_wp2_with fail
  refine hI.mono ?_
  rintro e w1 ⟨⟨v, rfl⟩, hv1, hw1⟩
  go_wp2_with fail
  first | (refine bodyPost_end (results_none rfl _ _ _) rfl ?_) | ((try simp only [Exit.inBlock, Exit.then]); refine bodyPost_end (results_none rfl _ _ _) rfl ?_) | (refine bodyPost_ret (results_none rfl _ _ _) rfl ?_)
  exact ⟨⟨_, rfl⟩, hv1, hw1⟩

theorem closed_no {l : List FileD} {a b : Int} (h : filesB l = false ∨ (inB a 0 20000 && inB b 0 20000 && decide (a ≤ b)) = false) : closedB l a b = false ∧ closedL l a b = [] := by
  have h1 : closedB l a b = false := by
    unfold closedB
    rcases h with h | h
    · rw [h]; rfl
    · rw [h]; simp
  exact ⟨h1, by simp [closedL, h1]⟩
theorem closed_yes {l : List FileD} {a b : Int} (h1 : filesB l = true) (h2 : (inB a 0 20000 && inB b 0 20000 && decide (a ≤ b)) = true) : closedB l a b = true ∧ closedL l a b = idsK (ordL l a b) (ordL l a b).length := by
  have h : closedB l a b = true := by unfold closedB; rw [h1, h2]; rfl
  exact ⟨h, by rw [closedL, if_pos h]⟩

set_option maxHeartbeats 4000000 in
theorem c_impl_ClosedSince (A : Option Addr) (c : Nat) (l : List FileD) (fr to : Int) (w : World) (hl : Ls w w.heap.size encFile 7 A l) (hm : l.length ≤ 1048576) (hnm : ∀ f ∈ l, f.title.size ≤ 1048576) (hcap : l.length ≤ c) :
    Calls Tryd.prog 19 #[.slice A l.length c, .int .i64 fr, .int .i64 to] w (RetSB w 3 encInt 1 (closedL l fr to) (closedB l fr to)) := by
  have hlen : (l.length : Int) ≤ 1048576 := by omega
  have hG := AreFiles_any A c l w hl hm hnm hcap
  cases h1 : filesB l
  · have Hv := Lib.hid (closed_no (a := fr) (b := to) (.inl h1))
    rw [h1] at hG
    clear h1 hnm
    go_enter Tryd.func19, Tryd.ntmps19
    go_wp2_with fail
    refine hG.mono ?_
    rintro e w1 ⟨rfl, hb1⟩
    go_wp2_with fail
    go_ret2
    exact ⟨none, 0, by rw [Hv.out.1, Hv.out.2]; rfl, by rw [Hv.out.2]; exact Vec.nil, hb1⟩
  · have hA := areDays_any fr to
    rw [h1] at hG
    cases h2 : (inB fr 0 20000 && inB to 0 20000 && decide (fr ≤ to))
    · have Hv := Lib.hid (closed_no (l := l) (.inr h2))
      rw [h2] at hA
      clear h1 h2 hnm
      go_enter Tryd.func19, Tryd.ntmps19
      go_wp2_with fail
      refine hG.mono ?_
      rintro e w1 ⟨rfl, hb1⟩
      go_wp2_with fail
      refine (hA _).mono ?_
      rintro e w1 ⟨rfl, rfl⟩
      go_wp2_with fail
      go_ret2
      exact ⟨none, 0, by rw [Hv.out.1, Hv.out.2]; rfl, by rw [Hv.out.2]; exact Vec.nil, hb1⟩
    · have Hv := Lib.hid (closed_yes h1 h2)
      have hl10 := (files_all h1).1
      have hso := spanL_le l fr to
      rw [h2] at hA
      clear h1 h2 hnm
      go_enter Tryd.func19, Tryd.ntmps19
      go_wp2_with fail
      refine hG.mono ?_
      rintro e w1 ⟨rfl, hb1⟩
      go_wp2_with fail
      refine (hA _).mono ?_
      rintro e w1 ⟨rfl, rfl⟩
      clear hG hA
      go_wp2_with fail
      go_loopw [8, 25] (fun v i wr => ∃ (k : Nat) (A' : Option Addr) (c' : Nat), k ≤ l.length ∧ i = .int .i64 k ∧ v = .slice A' (spanK l fr to k).length c' ∧ Vec wr w.heap.size 47 encFile 7 (.slice A' (spanK l fr to k).length c') (spanK l fr to k) ∧ Below w.heap.size w wr) (fun _ i _ => l.length - (intOf i).toNat)
      case atStart => exact ⟨0, none, 0, Nat.zero_le _, rfl, by rw [spanK_zero]; rfl, by rw [spanK_zero]; exact Vec.nil, hb1⟩
      case round =>
        obtain ⟨k, A', c', hk, rfl, rfl, hv, hb⟩ := hrel
        have hsz := hb.size
        by_cases hlt : k < l.length
        · obtain ⟨b, off, rfl, hbb, hc0, hc1, hc2, hc3, hc4, hc5, hc6⟩ := (hl.below hb).at_File hlt
          have hle := spanK_le l fr to k
          have hq : b < wr.heap.size := by omega
          cases hs : (l[k].state == 0)
          · have hs2 : (l[k].state != 0) = true := by simp at hs ⊢; exact hs
            have hW := within5_any l[k].closed fr to
            cases hi : inB l[k].closed fr to
            · have Hk := Lib.hid (spanK_no hlt (show spanB fr to l[k] = false by simp only [spanB, hs, hi]; rfl))
              rw [hi] at hW
              clear hi
              go_wp2_with fail
              refine (hW _).mono ?_
              rintro e w2 ⟨rfl, rfl⟩
              go_wp2_with fail
              go_roundw
              case rel => exact ⟨k + 1, A', c', by omega, by go_num, by rw [Hk.out], by rw [Hk.out]; exact hv.alloc _, blw_alloc hb _⟩
              case measure => simp [intOf]; omega
            · have Hk := Lib.hid (spanK_yes hlt (show spanB fr to l[k] = true by simp only [spanB, hs, hi]; rfl))
              rw [hi] at hW
              clear hi
              have hF1 : (spanK l fr to k).length + [l[k]].length ≤ maxLen := by unfold maxLen; simp; omega
              have hF2 : ((spanK l fr to k).length + [l[k]].length) * 64 ≤ 140737488355328 := by simp; omega
              go_wp2_with fail
              refine (hW _).mono ?_
              rintro e w2 ⟨rfl, rfl⟩
              go_wp2_with (at_builtin; refine wpList_app rfl (.tmp 39) (.tmp 41) 27 rfl 47 (.agg #[.int .i64 0, .int .i64 0, .string ⟨#[]⟩, .int .i64 0, .int .i64 0, .int .i64 0, .int .i64 0]) 7 64 Tryd.underlying27 (by kernel_rfl) rfl (by omega) encFile_len one_file A' c' (spanK l fr to k) rfl ((hv.alloc _).alloc _) (some ⟨wr.heap.size + 1, 0, none⟩) 1 (wr.heap.size + 2) [l[k]] rfl (Ls.one_at (by simp) rfl) hF1 hF2 (by simp <;> omega) ?_; intro A2 c2 w3 hv3 hw3)
              go_roundw
              case rel =>
                refine ⟨k + 1, A2, c2, by omega, by go_num, by rw [Hk.out]; simp, by rw [Hk.out]; exact hv3, ?_⟩
                exact (blw_alloc (blw_alloc hb _) _).trans (hw3.below (by simp; omega) (fun q hq => by have := (hv.block hq).1; omega))
              case measure => simp [intOf]; omega
          · have hs2 : (l[k].state != 0) = false := by simp at hs ⊢; exact hs
            have Hk := Lib.hid (spanK_no hlt (show spanB fr to l[k] = false by simp only [spanB, hs]; rfl))
            go_wp2_with fail
            go_roundw
            case rel => exact ⟨k + 1, A', c', by omega, by go_num, by rw [Hk.out], by rw [Hk.out]; exact hv.alloc _, blw_alloc hb _⟩
            case measure => simp [intOf]; omega
        · have hkk : k = l.length := by omega
          subst hkk
          rw [spanK_end] at hv
          have Hsp := Lib.hid (spanK_end l fr to)
          have hS := sort_all A' c' w.heap.size (spanL l fr to) wr hv (by omega) hsz
          rw [ordL_srt] at hS
          rw [Hsp.out]
          have hub : ∀ q, blkOf A' q → w.heap.size ≤ q := fun q hq => (hv.block hq).1
          clear hv
          go_wp2_with fail
          refine hS.mono ?_
          rintro e w2 ⟨⟨v, rfl⟩, hv2, hw2⟩
          have hB2 : Below w.heap.size w w2 := hb.trans (hw2.below hsz hub)
          have hsz2 := hB2.size
          have hol := ordL_len l fr to
          have hv2' : Vec w2 w.heap.size 47 encFile 7 (.slice A' (ordL l fr to).length c') (ordL l fr to) := by rw [hol]; exact hv2
          have hL2 := hv2'.ls encFile_len
          clear hS hv2 hv2'
          go_wp2_with fail
          go_loopw [11, 48] (fun v i wr => ∃ (k : Nat) (A2 : Option Addr) (c2 : Nat), k ≤ (spanL l fr to).length ∧ i = .int .i64 k ∧ v = .slice A2 k c2 ∧ Vec wr w2.heap.size 3 encInt 1 (.slice A2 k c2) (idsK (ordL l fr to) k) ∧ Below w2.heap.size w2 wr) (fun _ i _ => (spanL l fr to).length - (intOf i).toNat)
          case atStart => exact ⟨0, none, 0, Nat.zero_le _, rfl, rfl, by rw [idsK_zero]; exact Vec.nil, Below.refl _ _⟩
          case round =>
            obtain ⟨k, A2, c2, hk, rfl, rfl, hvi, hb2⟩ := hrel
            have hsz3 := hb2.size
            by_cases hlt2 : k < (spanL l fr to).length
            · have hlo : k < (ordL l fr to).length := by omega
              obtain ⟨b, off, rfl, hbb, hc0, hc1, hc2, hc3, hc4, hc5, hc6⟩ := (hL2.below hb2).at_File hlo
              have hq : b < wr.heap.size := by omega
              have hki : (k : Int) < ((spanL l fr to).length : Int) := by omega
              have Hk := Lib.hid (idsK_succ hlo)
              have hik := idsK_len (o := ordL l fr to) (k := k) (by omega)
              have hik2 := idsK_len (o := ordL l fr to) (k := k + 1) (by omega)
              have hF1 : (idsK (ordL l fr to) k).length + [(ordL l fr to)[k].id].length ≤ maxLen := by unfold maxLen; simp; omega
              have hF2 : ((idsK (ordL l fr to) k).length + [(ordL l fr to)[k].id].length) * 8 ≤ 140737488355328 := by simp; omega
              have Hik := Lib.hid hik
              have Hik2 := Lib.hid hik2
              clear hik hik2
              go_wp2_with (at_builtin; refine wpList_app rfl (.tmp 52) (.tmp 55) 37 rfl 3 (.int .i64 0) 1 8 Tryd.underlying37 (by kernel_rfl) rfl (by omega) encInt_len one_int A2 c2 (idsK (ordL l fr to) k) (by rw [Hik.out]; rfl) (by rw [Hik.out]; exact (hvi.alloc _).alloc _) (some ⟨wr.heap.size + 1, 0, none⟩) 1 (wr.heap.size + 2) [(ordL l fr to)[k].id] rfl (Ls.one_at (by simp) rfl) hF1 hF2 (by simp <;> omega) ?_; intro A4 c4 w3 hv3 hw3)
              rw [← Hk.out, Hik2.out] at hv3
              go_roundw
              case rel =>
                refine ⟨k + 1, A4, c4, by omega, by go_num, by simp [Hik.out], hv3, ?_⟩
                exact (blw_alloc (blw_alloc hb2 _) _).trans (hw3.below (by simp; omega) (fun q hq => by have := (hvi.block hq).1; omega))
              case measure => simp [intOf]; omega
            · have hkk : k = (spanL l fr to).length := by omega
              subst hkk
              have hki : ¬ ((spanL l fr to).length : Int) < ((spanL l fr to).length : Int) := by omega
              go_wp2_with fail
              go_ret2
              refine ⟨A2, c2, ?_, ?_, blw hB2 hb2⟩
              · rw [Hv.out.1, Hv.out.2, idsK_len (Nat.le_refl _), ordL_len]; rfl
              · rw [Hv.out.2, idsK_len (Nat.le_refl _), ordL_len]; exact hvi.mono hsz2

end Go.Proofs.YtlhihdcdbclcbaaDoor
