/- Contracts of DropRule, as the law takes them. -/
import Derived.Test.YtmcpkpaanamegaaD4e
import Derived.Test.YtmcpkpaanamegaaSe
namespace Go.Proofs.Ytmcpkpaanamegaa
set_option linter.unusedVariables false
set_option linter.unusedSimpArgs false
open Go.RowKit
attribute [local go_sem] Aft.cell

set_option maxHeartbeats 1000000 in
theorem l4Without_any (A : Option Addr) (c : Nat) (l : List RuleD) (s e : Int) (w : World) (hl : Ls w w.heap.size encRule 4 A l) (hm : l.length ≤ 1048576) :
    Calls Try.prog 42 #[.slice A l.length c, .int .i64 s, .int .i64 e] w (RetS w 45 encRule 4 (withoutL l s e)) := by
  have hlen : (l.length : Int) ≤ 1048576 := by omega
  go_enter Try.func42, Try.ntmps42
  go_wp2_with fail
  have hmk : Vec (w.alloc (.cells #[] 45)) w.heap.size 45 encRule 4 (.slice (some ⟨w.heap.size, 0, none⟩) 0 0) [] := Vec.empty _ _ _ (Nat.le_refl _)
  have hbel := blw_alloc (Below.refl w.heap.size w) (.cells #[] 45)
  go_loopw [7, 8] (fun v i wr => ∃ (k : Nat) (A' : Option Addr) (c' : Nat), k ≤ l.length ∧ i = .int .i64 k ∧ v = .slice A' (withoutK l s e k).length c' ∧ Vec wr w.heap.size 45 encRule 4 (.slice A' (withoutK l s e k).length c') (withoutK l s e k) ∧ Below w.heap.size w wr) (fun _ i _ => l.length - (intOf i).toNat)
  case atStart => exact ⟨0, _, 0, Nat.zero_le _, rfl, rfl, hmk, hbel⟩
  case round =>
    clear hmk hbel
    obtain ⟨k, A', c', hk, rfl, rfl, hv, hb⟩ := hrel
    by_cases hlt : k < l.length
    · obtain ⟨b, off, rfl, hbb, hc0, hc1, hc2, hc3⟩ := (hl.below hb).at_Rule hlt
      have hsz := hb.size
      have hle := withoutK_le l s e k
      have hF1 : (withoutK l s e k).length + [l[k]].length ≤ maxLen := by unfold maxLen; simp; omega
      have hF2 : ((withoutK l s e k).length + [l[k]].length) * 32 ≤ 140737488355328 := by simp; omega
      rcases (show ((l[k].s != s) = true ∧ hitB s e l[k] = false) ∨ ((l[k].s != s) = false ∧ (l[k].e != e) = true ∧ hitB s e l[k] = false) ∨ ((l[k].s != s) = false ∧ (l[k].e != e) = false ∧ hitB s e l[k] = true) by
        unfold hitB
        by_cases h1 : l[k].s = s <;> by_cases h2 : l[k].e = e <;> simp [h1, h2]) with ⟨h1, hh⟩ | ⟨h1, h2, hh⟩ | ⟨h1, h2, hh⟩
      iterate 2
        · have he := Lib.hid (withoutK_yes hlt hh)
          clear hh
          go_wp2_with (at_builtin; refine wpList_app rfl (.tmp 32) (.tmp 37) 25 rfl 45 (.agg #[.int .i64 0, .int .i64 0, .int .i64 0, .int .i64 0]) 4 32 Try.underlying25 (by kernel_rfl) rfl (by omega) encRule_len one_rule A' c' (withoutK l s e k) rfl (hv.alloc _) _ 1 (_ + 1) [l[k]] rfl (by exact Ls.one_at (by simp) rfl) hF1 hF2 (by simp; omega) ?_; intro A2 c2 w1 hv1 hw1)
          have hb1 : Below w.heap.size w w1 := (blw_alloc hb _).trans (hw1.below (by simp; omega) (fun x hx => (hv.block hx).1))
          go_roundw
          case rel => exact ⟨k + 1, A2, c2, by omega, by go_num, by rw [he.out]; simp, by rw [he.out]; exact hv1, hb1⟩
          case measure => simp [intOf]; omega
      · have he := Lib.hid (withoutK_no hlt hh)
        clear hh
        go_wp2_with fail
        go_roundw
        case rel => exact ⟨k + 1, A', c', by omega, by go_num, by rw [he.out], by rw [he.out]; exact hv, hb⟩
        case measure => simp [intOf]; omega
    · have hkk : k = l.length := by omega
      subst hkk
      rw [withoutK_end] at hv
      have he := Lib.hid (withoutK_end l s e)
      go_wp2_with fail
      go_ret
      exact ⟨A', c', by rw [← he.out]; rfl, hv, hb⟩

set_option maxHeartbeats 1000000 in
theorem c_spec_DropRule (A : Option Addr) (c : Nat) (l : List RuleD) (s e : Int) (w : World) (hl : Ls w w.heap.size encRule 4 A l) (hm : l.length ≤ 1048576) :
    Calls Try.prog 23 #[.slice A l.length c, .int .i64 s, .int .i64 e] w (RetSB w 45 encRule 4 (dropL l s e) (dropB l s e)) := by
  have hm' : l.length ≤ 9223372036854775807 := by omega
  cases h1 : schedB l
  · have Hv := Lib.hid (show dropL l s e = [] ∧ dropB l s e = false by simp [dropL, dropB, h1])
    go_enter Try.func23, Try.ntmps23
    go_wp2_with fail
    refine (l4Without_any _ _ _ _ _ _ hl hm).mono ?_
    rintro e' w1 ⟨A1, c1, rfl, hv1, hb1⟩
    go_wp2_with fail
    refine (l4Good_any _ _ _ _ ((hl.below hb1).more hb1.size) hm').mono ?_
    rw [h1]
    rintro e' w2 ⟨rfl, hb2⟩
    go_wp2_with fail
    go_ret2
    exact ⟨some ⟨w2.heap.size, 0, none⟩, 0, by rw [Hv.out.1, Hv.out.2]; rfl, by rw [Hv.out.1]; exact Vec.empty _ _ _ (Nat.le_trans hb1.size hb2.size), blw_alloc (blw hb1 hb2) _⟩
  · have hlen := dropB_len (s := s) (e := e) h1
    have hle : (withoutL l s e).length ≤ l.length := List.length_filter_le _ _
    cases hf : foundB l s e
    · have Hv := Lib.hid (show dropL l s e = [] ∧ dropB l s e = false by simp [dropL, dropB, h1, hf])
      have hq : (((withoutL l s e).length : Int) == (l.length : Int)) = true := by
        rw [hf] at hlen
        have : (withoutL l s e).length = l.length := by simpa using hlen
        rw [this]; simp
      have Hle := Lib.hid hle
      clear hlen hle
      go_enter Try.func23, Try.ntmps23
      go_wp2_with fail
      refine (l4Without_any _ _ _ _ _ _ hl hm).mono ?_
      rintro e' w1 ⟨A1, c1, rfl, hv1, hb1⟩
      go_wp2_with fail
      refine (l4Good_any _ _ _ _ ((hl.below hb1).more hb1.size) hm').mono ?_
      rw [h1]
      rintro e' w2 ⟨rfl, hb2⟩
      go_wp2_with fail
      go_ret2
      exact ⟨some ⟨w2.heap.size, 0, none⟩, 0, by rw [Hv.out.1, Hv.out.2]; rfl, by rw [Hv.out.1]; exact Vec.empty _ _ _ (Nat.le_trans hb1.size hb2.size), blw_alloc (blw hb1 hb2) _⟩
    · have Hv := Lib.hid (show dropL l s e = withoutL l s e ∧ dropB l s e = true by simp [dropL, dropB, h1, hf])
      have hq : (((withoutL l s e).length : Int) == (l.length : Int)) = false := by
        rw [hf] at hlen
        have : (withoutL l s e).length ≠ l.length := by simpa using hlen
        rw [beq_eq_false_iff_ne]; omega
      have Hle := Lib.hid hle
      clear hlen hle
      go_enter Try.func23, Try.ntmps23
      go_wp2_with fail
      refine (l4Without_any _ _ _ _ _ _ hl hm).mono ?_
      rintro e' w1 ⟨A1, c1, rfl, hv1, hb1⟩
      go_wp2_with fail
      refine (l4Good_any _ _ _ _ ((hl.below hb1).more hb1.size) hm').mono ?_
      rw [h1]
      rintro e' w2 ⟨rfl, hb2⟩
      go_wp2_with fail
      go_ret2
      exact ⟨A1, c1, by rw [Hv.out.1, Hv.out.2]; rfl, by rw [Hv.out.1]; exact hv1.on hb2, blw hb1 hb2⟩

set_option maxHeartbeats 400000 in
theorem DropRule1_any (r : RuleD) (s e : Int) (p q : Nat) (w : World) (hp : w.cell? ⟨p, 0, none⟩ = some (.int .i64 s)) (hq : w.cell? ⟨q, 0, none⟩ = some (.int .i64 e)) (hlp : p < w.heap.size) (hlq : q < w.heap.size) :
    Calls Try.prog 44 #[.agg #[.int .i64 r.s, .int .i64 r.e, .int .i64 r.d, .int .i64 r.a], .pointer (some ⟨p, 0, none⟩), .pointer (some ⟨q, 0, none⟩)] w fun e' w' => e' = .returned (.bool (hitB s e r)) ∧ Below w.heap.size w w' := by
  cases h1 : r.s == s
  · have Hv := Lib.hid (show hitB s e r = false by simp [hitB, h1])
    go_enter Try.func44, Try.ntmps44
    go_wp2_with fail
    go_ret
    exact ⟨ret_bool Hv.out.symm, blw_alloc (Below.refl _ _) _⟩
  · have Hv := Lib.hid (show hitB s e r = (r.e == e) by simp [hitB, h1])
    go_enter Try.func44, Try.ntmps44
    go_wp2_with fail
    go_ret
    exact ⟨ret_bool Hv.out.symm, blw_alloc (Below.refl _ _) _⟩

set_option maxHeartbeats 1000000 in
theorem IndexFunc_DropRule (A : Option Addr) (c : Nat) (l : List RuleD) (s e : Int) (p q : Nat) (w : World) (hl : Ls w w.heap.size encRule 4 A l) (hm : l.length ≤ 9223372036854775807) (hp : w.cell? ⟨p, 0, none⟩ = some (.int .i64 s)) (hq : w.cell? ⟨q, 0, none⟩ = some (.int .i64 e)) (hlp : p < w.heap.size) (hlq : q < w.heap.size) :
    Calls Try.prog 43 #[.slice A l.length c, .func (.func 44) #[] #[.pointer (some ⟨p, 0, none⟩), .pointer (some ⟨q, 0, none⟩)]] w fun e' w' => e' = .returned (.int .i64 (hitZ l s e)) ∧ Below w.heap.size w w' := by
  have hlen : (l.length : Int) ≤ 9223372036854775807 := by omega
  go_enter Try.func43, Try.ntmps43
  go_wp2_with fail
  go_loopw [8] (fun i wr => ∃ j : Nat, j ≤ l.length ∧ i = .int .i64 j ∧ Below w.heap.size w wr ∧ Hid (∀ k (hk : k < l.length), k < j → hitB s e l[k] = false)) (fun i _ => l.length - (intOf i).toNat)
  case atStart => exact ⟨0, Nat.zero_le _, rfl, Below.refl _ _, fun k _ hk => absurd hk (Nat.not_lt_zero _)⟩
  case round =>
    obtain ⟨j, hj, rfl, hb, hall⟩ := hrel
    have hp' := (hb.cell (p := ⟨p, 0, none⟩) hlp).trans hp
    have hq' := (hb.cell (p := ⟨q, 0, none⟩) hlq).trans hq
    have hlp' : p < wr.heap.size := Nat.lt_of_lt_of_le hlp hb.size
    have hlq' : q < wr.heap.size := Nat.lt_of_lt_of_le hlq hb.size
    by_cases hjl : j < l.length
    · obtain ⟨b, off, rfl, hbb, hc0, hc1, hc2, hc3⟩ := (hl.below hb).at_Rule hjl
      cases hx : hitB s e l[j]
      · have Hx := Lib.hid hx
        go_wp2_with (go_at_call 44; refine (DropRule1_any l[j] s e p q _ hp' hq' hlp' hlq').mono ?_; rw [hx]; rintro e' w1 ⟨rfl, hb1⟩)
        go_roundw
        case rel => exact ⟨j + 1, by omega, by go_num, blw hb hb1, fun k hk hkj => by rcases Nat.lt_succ_iff_lt_or_eq.1 hkj with h | rfl; exact hall.out k hk h; exact Hx.out⟩
        case measure => simp [intOf]; omega
      · have Hv := Lib.hid (show hitZ l s e = (j : Int) by unfold hitZ; rw [found_at j hjl hx hall.out, hitI_at j hjl hx hall.out]; rfl)
        go_wp2_with (go_at_call 44; refine (DropRule1_any l[j] s e p q _ hp' hq' hlp' hlq').mono ?_; rw [hx]; rintro e' w1 ⟨rfl, hb1⟩)
        go_ret
        exact ⟨ret_int Hv.out.symm, blw hb hb1⟩
    · have hkk : j = l.length := by omega
      subst hkk
      have Hv := Lib.hid (show hitZ l s e = -1 by unfold hitZ; rw [found_none hall.out]; rfl)
      go_wp2_with fail
      go_ret
      exact ⟨ret_int Hv.out.symm, hb⟩

set_option maxHeartbeats 2000000 in
theorem c_impl_DropRule (A : Option Addr) (c : Nat) (l : List RuleD) (s e : Int) (w : World) (hl : Ls w w.heap.size encRule 4 A l) (hm : l.length ≤ 1048576) :
    Calls Try.prog 24 #[.slice A l.length c, .int .i64 s, .int .i64 e] w (RetSB w 45 encRule 4 (dropL l s e) (dropB l s e)) := by
  have hm' : l.length ≤ 9223372036854775807 := by omega
  have hB := blw_alloc (blw_alloc (Below.refl w.heap.size w) (.cells #[.int .i64 s] 3)) (.cells #[.int .i64 e] 3)
  have hl0 := ((hl.alloc (Nat.le_refl _) (.cells #[.int .i64 s] 3)).alloc (by simp) (.cells #[.int .i64 e] 3)).more (B' := ((w.alloc (.cells #[.int .i64 s] 3)).alloc (.cells #[.int .i64 e] 3)).heap.size) (by simp; omega)
  have hp0 : ((w.alloc (.cells #[.int .i64 s] 3)).alloc (.cells #[.int .i64 e] 3)).cell? ⟨w.heap.size, 0, none⟩ = some (.int .i64 s) := by simp
  have hq0 : ((w.alloc (.cells #[.int .i64 s] 3)).alloc (.cells #[.int .i64 e] 3)).cell? ⟨w.heap.size + 1, 0, none⟩ = some (.int .i64 e) := by simp
  have hs0 : ((w.alloc (.cells #[.int .i64 s] 3)).alloc (.cells #[.int .i64 e] 3)).heap.size = w.heap.size + 2 := by simp
  cases h1 : schedB l
  · have Hv := Lib.hid (show dropL l s e = [] ∧ dropB l s e = false by simp [dropL, dropB, h1])
    go_enter Try.func24, Try.ntmps24
    go_wp2_with fail
    generalize ((w.alloc (.cells #[.int .i64 s] 3)).alloc (.cells #[.int .i64 e] 3)) = W0 at *
    refine (IndexFunc_DropRule _ _ l s e w.heap.size (w.heap.size + 1) _ hl0 hm' hp0 hq0 (by omega) (by omega)).mono ?_
    generalize hitZ l s e = z at *
    rintro e' w1 ⟨rfl, hb1⟩
    go_wp2_with fail
    refine (IsSchedule_any _ _ _ _ ((hl0.below hb1).more hb1.size) hm').mono ?_
    rw [h1]
    rintro e' w2 ⟨rfl, hb2⟩
    go_wp2_with fail
    go_ret2
    exact ⟨none, 0, by rw [Hv.out.1, Hv.out.2]; rfl, by rw [Hv.out.1]; exact Vec.nil, blw (hB.trans (hb1.mono hB.size)) hb2⟩
  · cases hf : foundB l s e
    · have Hv := Lib.hid (show dropL l s e = [] ∧ dropB l s e = false by simp [dropL, dropB, h1, hf])
      have Hz := Lib.hid (show hitZ l s e = -1 by simp [hitZ, hf])
      go_enter Try.func24, Try.ntmps24
      go_wp2_with fail
      generalize ((w.alloc (.cells #[.int .i64 s] 3)).alloc (.cells #[.int .i64 e] 3)) = W0 at *
      refine (IndexFunc_DropRule _ _ l s e w.heap.size (w.heap.size + 1) _ hl0 hm' hp0 hq0 (by omega) (by omega)).mono ?_
      rw [Hz.out]
      rintro e' w1 ⟨rfl, hb1⟩
      go_wp2_with fail
      refine (IsSchedule_any _ _ _ _ ((hl0.below hb1).more hb1.size) hm').mono ?_
      rw [h1]
      rintro e' w2 ⟨rfl, hb2⟩
      go_wp2_with fail
      go_ret2
      exact ⟨none, 0, by rw [Hv.out.1, Hv.out.2]; rfl, by rw [Hv.out.1]; exact Vec.nil, blw (hB.trans (hb1.mono hB.size)) hb2⟩
    · have Hv := Lib.hid (show dropL l s e = l.take (hitI l s e) ++ l.drop (hitI l s e + 1) ∧ dropB l s e = true by rw [← without_at h1 hf]; simp [dropL, dropB, h1, hf])
      have Hz := Lib.hid (show hitZ l s e = (hitI l s e : Int) by simp [hitZ, hf])
      have hi := found_lt hf
      clear hf
      go_enter Try.func24, Try.ntmps24
      go_wp2_with fail
      generalize ((w.alloc (.cells #[.int .i64 s] 3)).alloc (.cells #[.int .i64 e] 3)) = W0 at *
      refine (IndexFunc_DropRule _ _ l s e w.heap.size (w.heap.size + 1) _ hl0 hm' hp0 hq0 (by omega) (by omega)).mono ?_
      rw [Hz.out]
      generalize hitI l s e = z at *
      rintro e' w1 ⟨rfl, hb1⟩
      go_wp2_with fail
      refine (IsSchedule_any _ _ _ _ ((hl0.below hb1).more hb1.size) hm').mono ?_
      rw [h1]
      rintro e' w2 ⟨rfl, hb2⟩
      have hB2 := blw (hB.trans (hb1.mono hB.size)) hb2
      have hl2 := (((hl0.below hb1).more hb1.size).below hb2).more hb2.size
      go_wp2_with fail
      refine (Clone_Rule _ _ l _ hl2 hm).mono ?_
      rintro e' w3 ⟨A3, c3, rfl, hv3, hb3⟩
      have hr := hv3.2
      rcases hr with ⟨h3, h4⟩ | ⟨g, cap, cur, h3, _⟩
      · omega
      · simp at h3
        obtain ⟨rfl, rfl⟩ := h3
        have hlt0 : 0 < l.length := by omega
        go_wp2_with fail
        refine (Delete_Rule g c3 z w2.heap.size l _ hv3 hm hi).mono ?_
        rintro e' w4 ⟨rfl, hv4, hw4⟩
        have hlz : (l.take z ++ l.drop (z + 1)).length = l.length - 1 := by simp; omega
        have Hlz := Lib.hid hlz
        clear hlz
        have hbg := (hv3.block ⟨0, rfl⟩).1
        go_wp2_with fail
        go_ret2
        exact ⟨some ⟨g, 0, none⟩, c3, by rw [Hv.out.1, Hv.out.2, Hlz.out]; rfl, by rw [Hv.out.1, Hlz.out]; exact hv4.mono hB2.size, (blw hB2 hb3).trans (hw4.below (blw hB2 hb3).size (fun q hq => by have := hB2.size; omega))⟩

end Go.Proofs.Ytmcpkpaanamegaa
