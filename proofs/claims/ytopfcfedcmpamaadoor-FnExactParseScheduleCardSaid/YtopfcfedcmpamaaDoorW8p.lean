/- Contracts: ParseSchedule of the program. -/
import Derived.Test.YtopfcfedcmpamaaDoorW7p
import Derived.Test.YtopfcfedcmpamaaDoorD8
import Derived.Test.YtopfcfedcmpamaaDoorW4t
namespace Go.Proofs.YtopfcfedcmpamaaDoor
set_option linter.unusedVariables false
set_option linter.unusedSimpArgs false
open Go.RowKit Go.Shelf
attribute [local go_sem] Aft.cell
attribute [local go_sem] Oper.semAt_some

theorem TrimRight_any (s : ByteArray) (w : World) (hs : s.size ≤ 9223372036854775807) :
    Calls Tryd.prog 35 #[.string s, .string ⟨#[107, 116, 100]⟩] w fun e w' => e = .returned (.string (tR s)) ∧ Below w.heap.size w w' :=
  Any.strings_TrimRight_laid Tryd.lays162 (by kernel_rfl) s ⟨#[107, 116, 100]⟩ w hs (by decide) (ascii_of_all (by decide))
theorem Index_any (s sub : ByteArray) (w : World) (hs : s.size ≤ 1048576) (hm : Ml w) :
    Calls Tryd.prog 36 #[.string s, .string sub] w fun e w' => e = .returned (.int .i64 (Lib.index s.data.toList sub.data.toList)) ∧ Below w.heap.size w w' := by
  obtain ⟨m, hm⟩ := hm
  refine (Any.strings_Index Tryd.lays143 s sub m w (by omega) hm).mono ?_
  rintro e w' ⟨rfl, rfl⟩
  exact ⟨rfl, Below.refl _ _⟩
/-- What the calls of a round give for a word. -/
theorem word_calls (x : ByteArray) (hx : x.size ≤ 1048576) : ∃ (f1 r1 f2 rest days : ByteArray) (b1 b2 : Bool) (d1 d2 d3 ix : Int),
    (∀ W, Ml W → Calls Tryd.prog 24 #[.string x, .string ⟨#[46]⟩] W fun e w' => e = .returned (.tuple #[.string f1, .string r1, .bool b1]) ∧ Below W.heap.size W w') ∧
    (∀ W, Ml W → Calls Tryd.prog 24 #[.string r1, .string ⟨#[43]⟩] W fun e w' => e = .returned (.tuple #[.string f2, .string rest, .bool b2]) ∧ Below W.heap.size W w') ∧
    (∀ W, Calls Tryd.prog 35 #[.string rest, .string ⟨#[107, 116, 100]⟩] W fun e w' => e = .returned (.string days) ∧ Below W.heap.size W w') ∧
    (∀ W, Calls Tryd.prog 25 #[.string f1] W fun e w' => e = .returned (.int .i64 d1) ∧ Below W.heap.size W w') ∧
    (∀ W, Calls Tryd.prog 25 #[.string f2] W fun e w' => e = .returned (.int .i64 d2) ∧ Below W.heap.size W w') ∧
    (∀ W, Calls Tryd.prog 25 #[.string days] W fun e w' => e = .returned (.int .i64 d3) ∧ Below W.heap.size W w') ∧
    (∀ W, Ml W → Calls Tryd.prog 36 #[.string ⟨#[107, 116, 100]⟩, .string (rest.extract days.size rest.size)] W fun e w' => e = .returned (.int .i64 ix) ∧ Below W.heap.size W w') ∧
    days.size ≤ rest.size ∧ rest.size ≤ 1048576 ∧ -1 ≤ ix ∧ ix ≤ 3 ∧ rulOf x = ⟨d1, d2, d3, 1 + ix⟩ := by
  have z1 := cF_size 46 x
  have z2 := cS_size 46 x
  have z3 := cF_size 43 (cS 46 x)
  have z4 := cS_size 43 (cS 46 x)
  have z5 := tR_size (cS 43 (cS 46 x))
  exact ⟨cF 46 x, cS 46 x, cF 43 (cS 46 x), cS 43 (cS 46 x), tR (cS 43 (cS 46 x)), cB 46 x, cB 43 (cS 46 x), digV (cF 46 x), digV (cF 43 (cS 46 x)), digV (tR (cS 43 (cS 46 x))), _,
    fun W h => Cut_any x 46 W hx h, fun W h => Cut_any _ 43 W (by omega) h, fun W => TrimRight_any _ W (by omega), fun W => digitsOf_any _ W (by omega), fun W => digitsOf_any _ W (by omega), fun W => digitsOf_any _ W (by omega),
    fun W h => Index_any ⟨#[107, 116, 100]⟩ _ W (by decide) h, z5, by omega, Lib.index_ge _ _, Lib.index_le _ _, rfl⟩
theorem okS_no {s : ByteArray} {l : List RuleD} (hz : ¬ s.size = 0) (hE : pRul s = l) (h : schedB l = false ∨ ¬ schT l = s) : sB s = false ∧ keepS (okS s) (pRul s) = [] := by
  have h1 : okS s = false := by
    unfold okS
    rw [hE]
    rcases h with h | h <;> simp [h]
  exact ⟨by simp [sB, h1, hz], by simp [keepS, h1]⟩
theorem okS_yes {s : ByteArray} {l : List RuleD} (hE : pRul s = l) (h : schedB l = true) (h2 : schT l = s) : sB s = true ∧ keepS (okS s) (pRul s) = l := by
  have h1 : okS s = true := by
    unfold okS
    rw [hE, h, h2]
    simp
  exact ⟨by simp [sB, h1], by simp [keepS, h1, hE]⟩
theorem okS_zero {s : ByteArray} (hz : s.size = 0) : sB s = true ∧ keepS (okS s) (pRul s) = [] := ⟨by simp [sB, hz], by rw [okS_size hz]; rfl⟩

set_option maxRecDepth 100000 in
set_option maxHeartbeats 4000000 in
theorem c_impl_ParseSchedule (s : ByteArray) (w : World) (hs : s.size ≤ 1048576) (ht : Tab w) (hm : Ml w) :
    Calls Tryd.prog 12 #[.string s] w (RetSB w 58 encRule 4 (keepS (okS s) (pRul s)) (sB s)) := by
  by_cases hz : s.size = 0
  · have Hv := Lib.hid (okS_zero hz)
    have he : s.toList.isEmpty = true := by rw [ByteArray.toList_eq, List.isEmpty_iff]; exact List.length_eq_zero_iff.1 (by rw [ba_len]; exact hz)
    refine calls_of_marks Tryd.func12 rfl ?_
    simp only [Tryd.ntmps12, List.size_toArray, List.length_cons, List.length_nil, Nat.reduceAdd, Nat.reduceSub, Array.replicate_succ, Array.replicate_zero, List.push_toArray, List.append_toArray, List.nil_append, List.cons_append]
    go_wp2_with fail
    refine marks_ret0 ?_
    refine ⟨.tuple #[.slice none 0 0, .bool true], by simp [results, Tryd.results12, go_sem], none, 0, ?_, ?_, Below.refl _ _⟩
    · rw [Hv.out.2, Hv.out.1] <;> rfl
    · rw [Hv.out.2]; exact Vec.nil
  · have he : s.toList.isEmpty = false := by
      rw [ByteArray.toList_eq, List.isEmpty_eq_false_iff]
      intro hc
      exact hz (by rw [← ba_len, hc]; rfl)
    have HE := Lib.hid (show pRul s = (partsA 32 s).map rulOf from rfl)
    have Hpm := Lib.hid (fun x (hx : x ∈ partsA 32 s) => partsA_mem hx)
    have Hpl := Lib.hid (partsA_len 32 s)
    have hB7 := blw_alloc (Below.refl w.heap.size w) (.cells #[.slice none 0 0] 30)
    have hr7 : Blk (w.alloc (.cells #[.slice none 0 0] 30)) w.heap.size 30 #[.slice none 0 0] := Blk.new _ _ _
    have hz7 : (w.alloc (.cells #[.slice none 0 0] 30)).heap.size = w.heap.size + 1 := by simp
    refine calls_of_marks Tryd.func12 rfl ?_
    simp only [Tryd.ntmps12, List.size_toArray, List.length_cons, List.length_nil, Nat.reduceAdd, Nat.reduceSub, Array.replicate_succ, Array.replicate_zero, List.push_toArray, List.append_toArray, List.nil_append, List.cons_append]
    go_wp2_with fail
    change Calls Tryd.prog 26 _ (w.alloc (.cells #[.slice none 0 0] 30)) _
    generalize (w.alloc (.cells #[.slice none 0 0] 30)) = w7 at *
    refine (SplitSeq_any s ⟨#[32]⟩ w7).mono ?_
    rintro e w8 ⟨rfl, rfl⟩
    have u1 := ((Blk.new w7 9 #[.string s]).alloc (.cells #[.string ⟨#[32]⟩] 9)).alloc (.cells #[.int .i64 0] 3)
    have u2 := (Blk.new (w7.alloc (.cells #[.string s] 9)) 9 #[.string ⟨#[32]⟩]).alloc (.cells #[.int .i64 0] 3)
    have u3 := Blk.new ((w7.alloc (.cells #[.string s] 9)).alloc (.cells #[.string ⟨#[32]⟩] 9)) 3 #[.int .i64 0]
    have q8 : Below w7.heap.size w7 (((w7.alloc (.cells #[.string s] 9)).alloc (.cells #[.string ⟨#[32]⟩] 9)).alloc (.cells #[.int .i64 0] 3)) := blw_alloc (blw_alloc (blw_alloc (Below.refl _ _) _) _) _
    have hz8 : (((w7.alloc (.cells #[.string s] 9)).alloc (.cells #[.string ⟨#[32]⟩] 9)).alloc (.cells #[.int .i64 0] 3)).heap.size = w7.heap.size + 3 := by simp
    simp only [World.size_alloc] at u2 u3
    go_wp2_with fail
    generalize (((w7.alloc (.cells #[.string s] 9)).alloc (.cells #[.string ⟨#[32]⟩] 9)).alloc (.cells #[.int .i64 0] 3)) = w8 at *
    have hr8 := hr7.below q8 hr7.lt
    have hB8 := blw hB7 q8
    have hgv := splitSeq1_gives s 32 w7.heap.size w8 u1 u2 u3 hz8 (by omega)
    refine wp_rangeFunc_all (gf := 67) (lo := w7.heap.size) (enc := Value.string) (lb := #[.pointer (some ⟨w7.heap.size + 1, 0, none⟩), .pointer (some ⟨w7.heap.size, 0, none⟩), .pointer (some ⟨w7.heap.size + 2, 0, none⟩)]) (xs := partsA 32 s) ?hg ?eg ?hlo ?hgv ?hps
      (fun pre W => ∃ A c, Blk W w.heap.size 30 #[.slice A (pre.map rulOf).length c] ∧ Vec W (w7.heap.size + 5) 58 encRule 4 (.slice A (pre.map rulOf).length c) (pre.map rulOf) ∧ Below w.heap.size w W)
      ?hI ?h0 ?a1 ?assign ?body ?done
    case hg => simp [Act.eval]
    case eg => exact enters_of Tryd.func67 (by kernel_rfl) rfl
    case hlo => omega
    case hgv => exact hgv
    case hps => rfl
    case h0 => exact ⟨none, 0, hr8, Vec.nil, hB8⟩
    case hI =>
      rintro pre A B ⟨A1, c1, h2, h3, h4⟩ hw
      exact ⟨A1, c1, h2.wr hw (by omega), h3.wr_up hw (fun k hk => by omega), h4.trans (hw.below h4.size (fun k hk => by omega))⟩
    case assign =>
      intro l x W K hK
      gi_wp2
      exact hK
    case body =>
      rintro l pre x post W hx ⟨A1, c1, k2, k3, k4⟩ hsz
      obtain ⟨L, hL⟩ : ∃ L, L = pre.map rulOf := ⟨_, rfl⟩
      rw [← hL] at k2 k3
      have hxs : x.size ≤ 1048576 := by have := Hpm.out x (by rw [← hx]; simp); omega
      have hLn : L.length ≤ 1048577 := by
        have h := Hpl.out
        rw [← hx] at h
        rw [hL]
        simp at h ⊢
        omega
      obtain ⟨f1, r1, f2, rest, days, b1, b2, d1, d2, d3, ix, g1, g2, g3, e1, e2, e3, e4, hds, hrs, hi1, hi2, hR⟩ := word_calls x hxs
      have HR := Lib.hid hR
      have HL := Lib.hid hL
      clear hL hR
      have hwr : IntKind.i64.wrap (1 + ix) = 1 + ix := by rw [IntKind.wrap_i64]; omega
      have hd1 : (0 : Int) ≤ (days.size : Int) := by omega
      have hd2 : (days.size : Int) ≤ (rest.size : Int) := by omega
      refine wpIn_block (wpIn_seq (round_list ?_ rfl ?_))
      · rintro ⟨a, v, h⟩
        cases h.1
      go_wp2_with fail
      refine (g1 W (ml_below hm k4)).mono ?_
      rintro e v1 ⟨rfl, q1⟩
      have p1 := k4.trans (q1.mono k4.size)
      go_wp2_with fail
      refine wpIn_seq (round_list ?_ rfl ?_)
      · rintro ⟨a, v, h⟩
        cases h.1
      go_wp2_with fail
      refine (g2 v1 (ml_below hm p1)).mono ?_
      rintro e v2 ⟨rfl, q2⟩
      replace q1 := q1.trans (q2.mono q1.size)
      clear q2 p1
      go_wp2_with fail
      refine wpIn_seq (round_list ?_ rfl ?_)
      · rintro ⟨a, v, h⟩
        cases h.1
      go_wp2_with fail
      refine (g3 v2).mono ?_
      rintro e v3 ⟨rfl, q3⟩
      replace q1 := q1.trans (q3.mono q1.size)
      clear q3
      go_wp2_with fail
      have t1 : Wr (fun k => k = w.heap.size ∨ w7.heap.size + 5 ≤ k) W v3 := Wr.of_below q1
      have Hk4 := Lib.hid k4
      have t1' : Wr (fun _ => False) W v3 := Wr.of_below q1
      clear k4 q1
      generalize v3 = v1 at *
      refine round_held (S := fun _ => True) ?_ rfl (by kernel_rfl) ?_
      · rintro ⟨a, v, h⟩
        cases h.1
      have hHeld : True := trivial
      have hr : Blk v1.drew w.heap.size 30 #[.slice A1 L.length c1] := (k2.wr t1' (fun h => h)).drew
      have hv := (k3.wr_up t1' (fun k hk h => h)).drew
      have hT := t1.drew
      have hbs : w7.heap.size + 5 ≤ v1.drew.heap.size := by have := t1.size; show _ ≤ v1.heap.size; omega
      clear k2 k3 t1
      generalize v1.drew = v1 at *
      refine wpAnyH_take (i := 1) (v := ?v1) rfl (by kernel_rfl) (by kernel_rfl) (by kernel_rfl) (fun _ _ _ h => h) (Or.inl ⟨by rfl, ?hy1⟩) hHeld ?rest1
      case hy1 => (intro W hSw; (try dsimp only at hSw); go_simp) <;> with_reducible rfl
      try simp only [Act.put, List.setIfInBounds_toArray, List.set_cons_zero, List.set_cons_succ, List.getElem_toArray, List.getElem_cons_succ, List.getElem_cons_zero]
      refine wpAnyH_take (i := 3) (v := ?v2) rfl (by kernel_rfl) (by kernel_rfl) (by kernel_rfl) (fun _ _ _ h => h) (Or.inl ⟨by rfl, ?hy2⟩) hHeld ?rest2
      case hy2 => (intro W hSw; (try dsimp only at hSw); go_simp) <;> with_reducible rfl
      try simp only [Act.put, List.setIfInBounds_toArray, List.set_cons_zero, List.set_cons_succ, List.getElem_toArray, List.getElem_cons_succ, List.getElem_cons_zero]
      refine wpAnyH_take (i := 5) (v := ?v3) rfl (by kernel_rfl) (by kernel_rfl) (by kernel_rfl) (fun _ _ _ h => h) (Or.inl ⟨by rfl, ?hy3⟩) hHeld ?rest3
      case hy3 => (intro W hSw; (try dsimp only at hSw); go_simp) <;> with_reducible rfl
      try simp only [Act.put, List.setIfInBounds_toArray, List.set_cons_zero, List.set_cons_succ, List.getElem_toArray, List.getElem_cons_succ, List.getElem_cons_zero]
      refine wpAnyH_take (i := 7) (v := ?v4) rfl (by kernel_rfl) (by kernel_rfl) (by kernel_rfl) (fun _ _ _ h => h) (Or.inl ⟨by rfl, ?hy4⟩) hHeld ?rest4
      case hy4 => (intro W hSw; (try dsimp only at hSw); go_simp) <;> with_reducible rfl
      try simp only [Act.put, List.setIfInBounds_toArray, List.set_cons_zero, List.set_cons_succ, List.getElem_toArray, List.getElem_cons_succ, List.getElem_cons_zero]
      refine wpAnyH_take (i := 8) (v := ?v5) rfl (by kernel_rfl) (by kernel_rfl) (by kernel_rfl) (fun _ _ _ h => h) (Or.inl ⟨by rfl, ?hy5⟩) hHeld ?rest5
      case hy5 => (intro W hSw; (try dsimp only at hSw); go_simp) <;> with_reducible rfl
      try simp only [Act.put, List.setIfInBounds_toArray, List.set_cons_zero, List.set_cons_succ, List.getElem_toArray, List.getElem_cons_succ, List.getElem_cons_zero]
      refine wpAnyH_take (i := 9) (v := ?v6) rfl (by kernel_rfl) (by kernel_rfl) (by kernel_rfl) (fun _ _ _ h => h) (Or.inl ⟨by rfl, ?hy6⟩) hHeld ?rest6
      case hy6 => (intro W hSw; (try dsimp only at hSw); go_simp) <;> with_reducible rfl
      try simp only [Act.put, List.setIfInBounds_toArray, List.set_cons_zero, List.set_cons_succ, List.getElem_toArray, List.getElem_cons_succ, List.getElem_cons_zero]
      refine wpAnyH_take (i := 10) (v := ?v7) rfl (by kernel_rfl) (by kernel_rfl) (by kernel_rfl) (fun _ _ _ h => h) (Or.inl ⟨by rfl, ?hy7⟩) hHeld ?rest7
      case hy7 => (intro W hSw; (try dsimp only at hSw); go_simp) <;> with_reducible rfl
      try simp only [Act.put, List.setIfInBounds_toArray, List.set_cons_zero, List.set_cons_succ, List.getElem_toArray, List.getElem_cons_succ, List.getElem_cons_zero]
      refine wpAnyH_ready (rs := [0, 2]) (by kernel_rfl) (by simp) ?_
      refine AllReadyH.cons rfl (fun K hK => ?_) (AllReadyH.cons rfl (fun K hK => ?_) AllReadyH.nil)
      · have c3 := hr.cell 0
        go_simp
        refine hK.out _ _ trivial (fun hH2 => ?_)
        clear hK K hHeld hH2
        have hHeld : True := trivial
        clear c3
        try simp only [Act.put, List.setIfInBounds_toArray, List.set_cons_zero, List.set_cons_succ, List.getElem_toArray, List.getElem_cons_succ, List.getElem_cons_zero]
        refine wpAnyH_ready (rs := [2]) (by kernel_rfl) (by simp) ?_
        refine AllReadyH.cons rfl (fun K hK => ?_) AllReadyH.nil
        go_simp
        refine (e1 _).mono ?_
        rintro e v2 ⟨rfl, hq⟩
        go_wp2_with fail
        refine hK.out _ _ trivial (fun hH2 => ?_)
        clear hK K hHeld hH2
        have hHeld : True := trivial
        replace hr := hr.below hq hr.lt
        replace hv := hv.on hq
        replace hT := hT.trans (Wr.of_below hq)
        replace hbs := Nat.le_trans hbs hq.size
        clear hq
        try simp only [Act.put, List.setIfInBounds_toArray, List.set_cons_zero, List.set_cons_succ, List.getElem_toArray, List.getElem_cons_succ, List.getElem_cons_zero]
        refine wpAnyH_ready (rs := [4]) (by kernel_rfl) (by simp) ?_
        refine AllReadyH.cons rfl (fun K hK => ?_) AllReadyH.nil
        go_simp
        refine (e2 _).mono ?_
        rintro e v3 ⟨rfl, hq⟩
        go_wp2_with fail
        refine hK.out _ _ trivial (fun hH2 => ?_)
        clear hK K hHeld hH2
        have hHeld : True := trivial
        replace hr := hr.below hq hr.lt
        replace hv := hv.on hq
        replace hT := hT.trans (Wr.of_below hq)
        replace hbs := Nat.le_trans hbs hq.size
        clear hq
        try simp only [Act.put, List.setIfInBounds_toArray, List.set_cons_zero, List.set_cons_succ, List.getElem_toArray, List.getElem_cons_succ, List.getElem_cons_zero]
        refine wpAnyH_ready (rs := [6]) (by kernel_rfl) (by simp) ?_
        refine AllReadyH.cons rfl (fun K hK => ?_) AllReadyH.nil
        go_simp
        refine (e3 _).mono ?_
        rintro e v4 ⟨rfl, hq⟩
        go_wp2_with fail
        refine hK.out _ _ trivial (fun hH2 => ?_)
        clear hK K hHeld hH2
        have hHeld : True := trivial
        replace hr := hr.below hq hr.lt
        replace hv := hv.on hq
        replace hT := hT.trans (Wr.of_below hq)
        replace hbs := Nat.le_trans hbs hq.size
        clear hq
        try simp only [Act.put, List.setIfInBounds_toArray, List.set_cons_zero, List.set_cons_succ, List.getElem_toArray, List.getElem_cons_succ, List.getElem_cons_zero]
        refine wpAnyH_ready (rs := [11]) (by kernel_rfl) (by simp) ?_
        refine AllReadyH.cons rfl (fun K hK => ?_) AllReadyH.nil
        go_simp
        refine (e4 _ (ml_below hm (Hk4.out.trans (hT.below Hk4.out.size (fun k hk => by omega))))).mono ?_
        rintro e v5 ⟨rfl, hq⟩
        go_wp2_with fail
        refine hK.out _ _ trivial (fun hH2 => ?_)
        clear hK K hHeld hH2
        have hHeld : True := trivial
        replace hr := hr.below hq hr.lt
        replace hv := hv.on hq
        replace hT := hT.trans (Wr.of_below hq)
        replace hbs := Nat.le_trans hbs hq.size
        clear hq
        try simp only [Act.put, List.setIfInBounds_toArray, List.set_cons_zero, List.set_cons_succ, List.getElem_toArray, List.getElem_cons_succ, List.getElem_cons_zero]
        refine wpAnyH_take (i := 12) (v := ?v8) rfl (by kernel_rfl) (by kernel_rfl) (by kernel_rfl) (fun _ _ _ h => h) (Or.inl ⟨by rfl, ?hy8⟩) hHeld ?rest8
        case hy8 => (intro W hSw; (try dsimp only at hSw); go_simp) <;> with_reducible rfl
        try simp only [Act.put, List.setIfInBounds_toArray, List.set_cons_zero, List.set_cons_succ, List.getElem_toArray, List.getElem_cons_succ, List.getElem_cons_zero]
        refine wpAnyH_take (i := 13) (v := ?v9) rfl (by kernel_rfl) (by kernel_rfl) (by kernel_rfl) (fun _ _ _ h => h) (Or.inl ⟨by rfl, ?hy9⟩) hHeld ?rest9
        case hy9 => (intro W hSw; (try dsimp only at hSw); go_simp) <;> with_reducible rfl
        try simp only [Act.put, List.setIfInBounds_toArray, List.set_cons_zero, List.set_cons_succ, List.getElem_toArray, List.getElem_cons_succ, List.getElem_cons_zero]
        refine wpAnyH_ready (rs := [14]) (by kernel_rfl) (by simp) ?_
        refine AllReadyH.cons rfl (fun K hK => ?_) AllReadyH.nil
        go_simp
        refine hK.out _ _ trivial (fun hH2 => ?_)
        clear hK K hHeld hH2
        have hHeld : True := trivial
        have b1 : Blk (v5.alloc (.cells #[.int .i64 d1, .int .i64 d2, .int .i64 d3, .int .i64 (1 + ix)] 58)) v5.heap.size 58 #[.int .i64 d1, .int .i64 d2, .int .i64 d3, .int .i64 (1 + ix)] := Blk.new v5 58 #[.int .i64 d1, .int .i64 d2, .int .i64 d3, .int .i64 (1 + ix)]
        replace hr := hr.alloc (.cells #[.int .i64 d1, .int .i64 d2, .int .i64 d3, .int .i64 (1 + ix)] 58)
        replace hv := hv.alloc (.cells #[.int .i64 d1, .int .i64 d2, .int .i64 d3, .int .i64 (1 + ix)] 58)
        replace hT := hT.alloc (.cells #[.int .i64 d1, .int .i64 d2, .int .i64 d3, .int .i64 (1 + ix)] 58)
        replace hbs : w7.heap.size + 5 ≤ (v5.alloc (.cells #[.int .i64 d1, .int .i64 d2, .int .i64 d3, .int .i64 (1 + ix)] 58)).heap.size := by simp; omega
        generalize (v5.alloc (.cells #[.int .i64 d1, .int .i64 d2, .int .i64 d3, .int .i64 (1 + ix)] 58)) = v6 at *
        generalize v5.heap.size = N1 at *
        try simp only [Act.put, List.setIfInBounds_toArray, List.set_cons_zero, List.set_cons_succ, List.getElem_toArray, List.getElem_cons_succ, List.getElem_cons_zero]
        refine wpAnyH_ready (rs := [15]) (by kernel_rfl) (by simp) ?_
        refine AllReadyH.cons rfl (fun K hK => ?_) AllReadyH.nil
        refine step_appN (base := w7.heap.size + 5) rfl (.tmp 31) (.tmp 45) 30 rfl 58 (.agg #[.int .i64 0, .int .i64 0, .int .i64 0, .int .i64 0]) 4 32 Tryd.underlying30 (by kernel_rfl) rfl (by omega) encRule_len one_rule A1 c1 _ L rfl rfl hv _ 1 _ 1 [(⟨d1, d2, d3, 1 + ix⟩ : RuleD)] rfl rfl (Ls.blkc b1 rfl) (by unfold maxLen; omega) (by omega) hbs (L.length + 1) rfl ?_
        intro A2 c2 v7 hv2 hw2
        refine hK.out _ _ trivial (fun hH2 => ?_)
        clear hK K hHeld hH2
        have hHeld : True := trivial
        replace hr := hr.wr hw2 (fun hq => by have := (hv.block hq).1; omega)
        replace hT := hT.trans (hw2.mono (fun k hk => .inr (hv.block hk).1))
        clear hw2 hv b1
        try simp only [Act.put, List.setIfInBounds_toArray, List.set_cons_zero, List.set_cons_succ, List.getElem_toArray, List.getElem_cons_succ, List.getElem_cons_zero]
        refine wpAnyH_ready (rs := [16]) (by kernel_rfl) (by simp) ?_
        refine AllReadyH.cons rfl (fun K hK => ?_) AllReadyH.nil
        have c3 := hr.cell 0
        have f3 := hr.frozen 0
        go_simp
        refine hK.out _ _ trivial (fun hH2 => ?_)
        clear hK K hHeld hH2
        have hHeld : True := trivial
        have hw3 : Wr (fun k => k = w.heap.size) v7 (v7.setCell ⟨w.heap.size, 0, none⟩ (.slice A2 (L.length + 1) c2)) := Wr.setCell (p := ⟨w.heap.size, 0, none⟩) (Wr.refl (fun k => k = w.heap.size) v7) (.inl rfl) _
        replace hv2 := hv2.wr_up hw3 (fun k hk => by omega)
        replace hT := hT.trans (hw3.mono (fun k hk => .inl hk))
        have hrf : Blk (v7.setCell ⟨w.heap.size, 0, none⟩ (.slice A2 (L.length + 1) c2)) w.heap.size 30 #[.slice A2 (L.length + 1) c2] := by
          have h := hr.set_ 0 (.slice A2 (L.length + 1) c2)
          simpa using h
        generalize (v7.setCell ⟨w.heap.size, 0, none⟩ (.slice A2 (L.length + 1) c2)) = v8 at *
        try simp only [Act.put, List.setIfInBounds_toArray, List.set_cons_zero, List.set_cons_succ, List.getElem_toArray, List.getElem_cons_succ, List.getElem_cons_zero]
        refine wpAnyH_done (by kernel_rfl) ?_ _
        have hLx : (pre ++ [x]).map rulOf = L ++ [(⟨d1, d2, d3, 1 + ix⟩ : RuleD)] := by rw [HL.out, List.map_append, List.map_cons, HR.out]; rfl
        have hLy : (L ++ [(⟨d1, d2, d3, 1 + ix⟩ : RuleD)]).length = L.length + 1 := by simp
        rw [← hLy, ← hLx] at hrf hv2
        exact ⟨rfl, fun k h1 h2 => hT.block k (by omega) (by omega), A2, c2, hrf, hv2, Hk4.out.trans (hT.below Hk4.out.size (fun k hk => by omega))⟩
      · go_simp
        refine (e1 _).mono ?_
        rintro e v9 ⟨rfl, hq⟩
        go_wp2_with fail
        refine hK.out _ _ trivial (fun hH2 => ?_)
        clear hK K hHeld hH2
        have hHeld : True := trivial
        replace hr := hr.below hq hr.lt
        replace hv := hv.on hq
        replace hT := hT.trans (Wr.of_below hq)
        replace hbs := Nat.le_trans hbs hq.size
        clear hq
        try simp only [Act.put, List.setIfInBounds_toArray, List.set_cons_zero, List.set_cons_succ, List.getElem_toArray, List.getElem_cons_succ, List.getElem_cons_zero]
        refine wpAnyH_ready (rs := [0, 4]) (by kernel_rfl) (by simp) ?_
        refine AllReadyH.cons rfl (fun K hK => ?_) (AllReadyH.cons rfl (fun K hK => ?_) AllReadyH.nil)
        · have c3 := hr.cell 0
          go_simp
          refine hK.out _ _ trivial (fun hH2 => ?_)
          clear hK K hHeld hH2
          have hHeld : True := trivial
          clear c3
          try simp only [Act.put, List.setIfInBounds_toArray, List.set_cons_zero, List.set_cons_succ, List.getElem_toArray, List.getElem_cons_succ, List.getElem_cons_zero]
          refine wpAnyH_ready (rs := [4]) (by kernel_rfl) (by simp) ?_
          refine AllReadyH.cons rfl (fun K hK => ?_) AllReadyH.nil
          go_simp
          refine (e2 _).mono ?_
          rintro e v10 ⟨rfl, hq⟩
          go_wp2_with fail
          refine hK.out _ _ trivial (fun hH2 => ?_)
          clear hK K hHeld hH2
          have hHeld : True := trivial
          replace hr := hr.below hq hr.lt
          replace hv := hv.on hq
          replace hT := hT.trans (Wr.of_below hq)
          replace hbs := Nat.le_trans hbs hq.size
          clear hq
          try simp only [Act.put, List.setIfInBounds_toArray, List.set_cons_zero, List.set_cons_succ, List.getElem_toArray, List.getElem_cons_succ, List.getElem_cons_zero]
          refine wpAnyH_ready (rs := [6]) (by kernel_rfl) (by simp) ?_
          refine AllReadyH.cons rfl (fun K hK => ?_) AllReadyH.nil
          go_simp
          refine (e3 _).mono ?_
          rintro e v11 ⟨rfl, hq⟩
          go_wp2_with fail
          refine hK.out _ _ trivial (fun hH2 => ?_)
          clear hK K hHeld hH2
          have hHeld : True := trivial
          replace hr := hr.below hq hr.lt
          replace hv := hv.on hq
          replace hT := hT.trans (Wr.of_below hq)
          replace hbs := Nat.le_trans hbs hq.size
          clear hq
          try simp only [Act.put, List.setIfInBounds_toArray, List.set_cons_zero, List.set_cons_succ, List.getElem_toArray, List.getElem_cons_succ, List.getElem_cons_zero]
          refine wpAnyH_ready (rs := [11]) (by kernel_rfl) (by simp) ?_
          refine AllReadyH.cons rfl (fun K hK => ?_) AllReadyH.nil
          go_simp
          refine (e4 _ (ml_below hm (Hk4.out.trans (hT.below Hk4.out.size (fun k hk => by omega))))).mono ?_
          rintro e v12 ⟨rfl, hq⟩
          go_wp2_with fail
          refine hK.out _ _ trivial (fun hH2 => ?_)
          clear hK K hHeld hH2
          have hHeld : True := trivial
          replace hr := hr.below hq hr.lt
          replace hv := hv.on hq
          replace hT := hT.trans (Wr.of_below hq)
          replace hbs := Nat.le_trans hbs hq.size
          clear hq
          try simp only [Act.put, List.setIfInBounds_toArray, List.set_cons_zero, List.set_cons_succ, List.getElem_toArray, List.getElem_cons_succ, List.getElem_cons_zero]
          refine wpAnyH_take (i := 12) (v := ?v10) rfl (by kernel_rfl) (by kernel_rfl) (by kernel_rfl) (fun _ _ _ h => h) (Or.inl ⟨by rfl, ?hy10⟩) hHeld ?rest10
          case hy10 => (intro W hSw; (try dsimp only at hSw); go_simp) <;> with_reducible rfl
          try simp only [Act.put, List.setIfInBounds_toArray, List.set_cons_zero, List.set_cons_succ, List.getElem_toArray, List.getElem_cons_succ, List.getElem_cons_zero]
          refine wpAnyH_take (i := 13) (v := ?v11) rfl (by kernel_rfl) (by kernel_rfl) (by kernel_rfl) (fun _ _ _ h => h) (Or.inl ⟨by rfl, ?hy11⟩) hHeld ?rest11
          case hy11 => (intro W hSw; (try dsimp only at hSw); go_simp) <;> with_reducible rfl
          try simp only [Act.put, List.setIfInBounds_toArray, List.set_cons_zero, List.set_cons_succ, List.getElem_toArray, List.getElem_cons_succ, List.getElem_cons_zero]
          refine wpAnyH_ready (rs := [14]) (by kernel_rfl) (by simp) ?_
          refine AllReadyH.cons rfl (fun K hK => ?_) AllReadyH.nil
          go_simp
          refine hK.out _ _ trivial (fun hH2 => ?_)
          clear hK K hHeld hH2
          have hHeld : True := trivial
          have b1 : Blk (v12.alloc (.cells #[.int .i64 d1, .int .i64 d2, .int .i64 d3, .int .i64 (1 + ix)] 58)) v12.heap.size 58 #[.int .i64 d1, .int .i64 d2, .int .i64 d3, .int .i64 (1 + ix)] := Blk.new v12 58 #[.int .i64 d1, .int .i64 d2, .int .i64 d3, .int .i64 (1 + ix)]
          replace hr := hr.alloc (.cells #[.int .i64 d1, .int .i64 d2, .int .i64 d3, .int .i64 (1 + ix)] 58)
          replace hv := hv.alloc (.cells #[.int .i64 d1, .int .i64 d2, .int .i64 d3, .int .i64 (1 + ix)] 58)
          replace hT := hT.alloc (.cells #[.int .i64 d1, .int .i64 d2, .int .i64 d3, .int .i64 (1 + ix)] 58)
          replace hbs : w7.heap.size + 5 ≤ (v12.alloc (.cells #[.int .i64 d1, .int .i64 d2, .int .i64 d3, .int .i64 (1 + ix)] 58)).heap.size := by simp; omega
          generalize (v12.alloc (.cells #[.int .i64 d1, .int .i64 d2, .int .i64 d3, .int .i64 (1 + ix)] 58)) = v13 at *
          generalize v12.heap.size = N1 at *
          try simp only [Act.put, List.setIfInBounds_toArray, List.set_cons_zero, List.set_cons_succ, List.getElem_toArray, List.getElem_cons_succ, List.getElem_cons_zero]
          refine wpAnyH_ready (rs := [15]) (by kernel_rfl) (by simp) ?_
          refine AllReadyH.cons rfl (fun K hK => ?_) AllReadyH.nil
          refine step_appN (base := w7.heap.size + 5) rfl (.tmp 31) (.tmp 45) 30 rfl 58 (.agg #[.int .i64 0, .int .i64 0, .int .i64 0, .int .i64 0]) 4 32 Tryd.underlying30 (by kernel_rfl) rfl (by omega) encRule_len one_rule A1 c1 _ L rfl rfl hv _ 1 _ 1 [(⟨d1, d2, d3, 1 + ix⟩ : RuleD)] rfl rfl (Ls.blkc b1 rfl) (by unfold maxLen; omega) (by omega) hbs (L.length + 1) rfl ?_
          intro A2 c2 v14 hv2 hw2
          refine hK.out _ _ trivial (fun hH2 => ?_)
          clear hK K hHeld hH2
          have hHeld : True := trivial
          replace hr := hr.wr hw2 (fun hq => by have := (hv.block hq).1; omega)
          replace hT := hT.trans (hw2.mono (fun k hk => .inr (hv.block hk).1))
          clear hw2 hv b1
          try simp only [Act.put, List.setIfInBounds_toArray, List.set_cons_zero, List.set_cons_succ, List.getElem_toArray, List.getElem_cons_succ, List.getElem_cons_zero]
          refine wpAnyH_ready (rs := [16]) (by kernel_rfl) (by simp) ?_
          refine AllReadyH.cons rfl (fun K hK => ?_) AllReadyH.nil
          have c3 := hr.cell 0
          have f3 := hr.frozen 0
          go_simp
          refine hK.out _ _ trivial (fun hH2 => ?_)
          clear hK K hHeld hH2
          have hHeld : True := trivial
          have hw3 : Wr (fun k => k = w.heap.size) v14 (v14.setCell ⟨w.heap.size, 0, none⟩ (.slice A2 (L.length + 1) c2)) := Wr.setCell (p := ⟨w.heap.size, 0, none⟩) (Wr.refl (fun k => k = w.heap.size) v14) (.inl rfl) _
          replace hv2 := hv2.wr_up hw3 (fun k hk => by omega)
          replace hT := hT.trans (hw3.mono (fun k hk => .inl hk))
          have hrf : Blk (v14.setCell ⟨w.heap.size, 0, none⟩ (.slice A2 (L.length + 1) c2)) w.heap.size 30 #[.slice A2 (L.length + 1) c2] := by
            have h := hr.set_ 0 (.slice A2 (L.length + 1) c2)
            simpa using h
          generalize (v14.setCell ⟨w.heap.size, 0, none⟩ (.slice A2 (L.length + 1) c2)) = v15 at *
          try simp only [Act.put, List.setIfInBounds_toArray, List.set_cons_zero, List.set_cons_succ, List.getElem_toArray, List.getElem_cons_succ, List.getElem_cons_zero]
          refine wpAnyH_done (by kernel_rfl) ?_ _
          have hLx : (pre ++ [x]).map rulOf = L ++ [(⟨d1, d2, d3, 1 + ix⟩ : RuleD)] := by rw [HL.out, List.map_append, List.map_cons, HR.out]; rfl
          have hLy : (L ++ [(⟨d1, d2, d3, 1 + ix⟩ : RuleD)]).length = L.length + 1 := by simp
          rw [← hLy, ← hLx] at hrf hv2
          exact ⟨rfl, fun k h1 h2 => hT.block k (by omega) (by omega), A2, c2, hrf, hv2, Hk4.out.trans (hT.below Hk4.out.size (fun k hk => by omega))⟩
        · go_simp
          refine (e2 _).mono ?_
          rintro e v16 ⟨rfl, hq⟩
          go_wp2_with fail
          refine hK.out _ _ trivial (fun hH2 => ?_)
          clear hK K hHeld hH2
          have hHeld : True := trivial
          replace hr := hr.below hq hr.lt
          replace hv := hv.on hq
          replace hT := hT.trans (Wr.of_below hq)
          replace hbs := Nat.le_trans hbs hq.size
          clear hq
          try simp only [Act.put, List.setIfInBounds_toArray, List.set_cons_zero, List.set_cons_succ, List.getElem_toArray, List.getElem_cons_succ, List.getElem_cons_zero]
          refine wpAnyH_ready (rs := [0, 6]) (by kernel_rfl) (by simp) ?_
          refine AllReadyH.cons rfl (fun K hK => ?_) (AllReadyH.cons rfl (fun K hK => ?_) AllReadyH.nil)
          · have c3 := hr.cell 0
            go_simp
            refine hK.out _ _ trivial (fun hH2 => ?_)
            clear hK K hHeld hH2
            have hHeld : True := trivial
            clear c3
            try simp only [Act.put, List.setIfInBounds_toArray, List.set_cons_zero, List.set_cons_succ, List.getElem_toArray, List.getElem_cons_succ, List.getElem_cons_zero]
            refine wpAnyH_ready (rs := [6]) (by kernel_rfl) (by simp) ?_
            refine AllReadyH.cons rfl (fun K hK => ?_) AllReadyH.nil
            go_simp
            refine (e3 _).mono ?_
            rintro e v17 ⟨rfl, hq⟩
            go_wp2_with fail
            refine hK.out _ _ trivial (fun hH2 => ?_)
            clear hK K hHeld hH2
            have hHeld : True := trivial
            replace hr := hr.below hq hr.lt
            replace hv := hv.on hq
            replace hT := hT.trans (Wr.of_below hq)
            replace hbs := Nat.le_trans hbs hq.size
            clear hq
            try simp only [Act.put, List.setIfInBounds_toArray, List.set_cons_zero, List.set_cons_succ, List.getElem_toArray, List.getElem_cons_succ, List.getElem_cons_zero]
            refine wpAnyH_ready (rs := [11]) (by kernel_rfl) (by simp) ?_
            refine AllReadyH.cons rfl (fun K hK => ?_) AllReadyH.nil
            go_simp
            refine (e4 _ (ml_below hm (Hk4.out.trans (hT.below Hk4.out.size (fun k hk => by omega))))).mono ?_
            rintro e v18 ⟨rfl, hq⟩
            go_wp2_with fail
            refine hK.out _ _ trivial (fun hH2 => ?_)
            clear hK K hHeld hH2
            have hHeld : True := trivial
            replace hr := hr.below hq hr.lt
            replace hv := hv.on hq
            replace hT := hT.trans (Wr.of_below hq)
            replace hbs := Nat.le_trans hbs hq.size
            clear hq
            try simp only [Act.put, List.setIfInBounds_toArray, List.set_cons_zero, List.set_cons_succ, List.getElem_toArray, List.getElem_cons_succ, List.getElem_cons_zero]
            refine wpAnyH_take (i := 12) (v := ?v12) rfl (by kernel_rfl) (by kernel_rfl) (by kernel_rfl) (fun _ _ _ h => h) (Or.inl ⟨by rfl, ?hy12⟩) hHeld ?rest12
            case hy12 => (intro W hSw; (try dsimp only at hSw); go_simp) <;> with_reducible rfl
            try simp only [Act.put, List.setIfInBounds_toArray, List.set_cons_zero, List.set_cons_succ, List.getElem_toArray, List.getElem_cons_succ, List.getElem_cons_zero]
            refine wpAnyH_take (i := 13) (v := ?v13) rfl (by kernel_rfl) (by kernel_rfl) (by kernel_rfl) (fun _ _ _ h => h) (Or.inl ⟨by rfl, ?hy13⟩) hHeld ?rest13
            case hy13 => (intro W hSw; (try dsimp only at hSw); go_simp) <;> with_reducible rfl
            try simp only [Act.put, List.setIfInBounds_toArray, List.set_cons_zero, List.set_cons_succ, List.getElem_toArray, List.getElem_cons_succ, List.getElem_cons_zero]
            refine wpAnyH_ready (rs := [14]) (by kernel_rfl) (by simp) ?_
            refine AllReadyH.cons rfl (fun K hK => ?_) AllReadyH.nil
            go_simp
            refine hK.out _ _ trivial (fun hH2 => ?_)
            clear hK K hHeld hH2
            have hHeld : True := trivial
            have b1 : Blk (v18.alloc (.cells #[.int .i64 d1, .int .i64 d2, .int .i64 d3, .int .i64 (1 + ix)] 58)) v18.heap.size 58 #[.int .i64 d1, .int .i64 d2, .int .i64 d3, .int .i64 (1 + ix)] := Blk.new v18 58 #[.int .i64 d1, .int .i64 d2, .int .i64 d3, .int .i64 (1 + ix)]
            replace hr := hr.alloc (.cells #[.int .i64 d1, .int .i64 d2, .int .i64 d3, .int .i64 (1 + ix)] 58)
            replace hv := hv.alloc (.cells #[.int .i64 d1, .int .i64 d2, .int .i64 d3, .int .i64 (1 + ix)] 58)
            replace hT := hT.alloc (.cells #[.int .i64 d1, .int .i64 d2, .int .i64 d3, .int .i64 (1 + ix)] 58)
            replace hbs : w7.heap.size + 5 ≤ (v18.alloc (.cells #[.int .i64 d1, .int .i64 d2, .int .i64 d3, .int .i64 (1 + ix)] 58)).heap.size := by simp; omega
            generalize (v18.alloc (.cells #[.int .i64 d1, .int .i64 d2, .int .i64 d3, .int .i64 (1 + ix)] 58)) = v19 at *
            generalize v18.heap.size = N1 at *
            try simp only [Act.put, List.setIfInBounds_toArray, List.set_cons_zero, List.set_cons_succ, List.getElem_toArray, List.getElem_cons_succ, List.getElem_cons_zero]
            refine wpAnyH_ready (rs := [15]) (by kernel_rfl) (by simp) ?_
            refine AllReadyH.cons rfl (fun K hK => ?_) AllReadyH.nil
            refine step_appN (base := w7.heap.size + 5) rfl (.tmp 31) (.tmp 45) 30 rfl 58 (.agg #[.int .i64 0, .int .i64 0, .int .i64 0, .int .i64 0]) 4 32 Tryd.underlying30 (by kernel_rfl) rfl (by omega) encRule_len one_rule A1 c1 _ L rfl rfl hv _ 1 _ 1 [(⟨d1, d2, d3, 1 + ix⟩ : RuleD)] rfl rfl (Ls.blkc b1 rfl) (by unfold maxLen; omega) (by omega) hbs (L.length + 1) rfl ?_
            intro A2 c2 v20 hv2 hw2
            refine hK.out _ _ trivial (fun hH2 => ?_)
            clear hK K hHeld hH2
            have hHeld : True := trivial
            replace hr := hr.wr hw2 (fun hq => by have := (hv.block hq).1; omega)
            replace hT := hT.trans (hw2.mono (fun k hk => .inr (hv.block hk).1))
            clear hw2 hv b1
            try simp only [Act.put, List.setIfInBounds_toArray, List.set_cons_zero, List.set_cons_succ, List.getElem_toArray, List.getElem_cons_succ, List.getElem_cons_zero]
            refine wpAnyH_ready (rs := [16]) (by kernel_rfl) (by simp) ?_
            refine AllReadyH.cons rfl (fun K hK => ?_) AllReadyH.nil
            have c3 := hr.cell 0
            have f3 := hr.frozen 0
            go_simp
            refine hK.out _ _ trivial (fun hH2 => ?_)
            clear hK K hHeld hH2
            have hHeld : True := trivial
            have hw3 : Wr (fun k => k = w.heap.size) v20 (v20.setCell ⟨w.heap.size, 0, none⟩ (.slice A2 (L.length + 1) c2)) := Wr.setCell (p := ⟨w.heap.size, 0, none⟩) (Wr.refl (fun k => k = w.heap.size) v20) (.inl rfl) _
            replace hv2 := hv2.wr_up hw3 (fun k hk => by omega)
            replace hT := hT.trans (hw3.mono (fun k hk => .inl hk))
            have hrf : Blk (v20.setCell ⟨w.heap.size, 0, none⟩ (.slice A2 (L.length + 1) c2)) w.heap.size 30 #[.slice A2 (L.length + 1) c2] := by
              have h := hr.set_ 0 (.slice A2 (L.length + 1) c2)
              simpa using h
            generalize (v20.setCell ⟨w.heap.size, 0, none⟩ (.slice A2 (L.length + 1) c2)) = v21 at *
            try simp only [Act.put, List.setIfInBounds_toArray, List.set_cons_zero, List.set_cons_succ, List.getElem_toArray, List.getElem_cons_succ, List.getElem_cons_zero]
            refine wpAnyH_done (by kernel_rfl) ?_ _
            have hLx : (pre ++ [x]).map rulOf = L ++ [(⟨d1, d2, d3, 1 + ix⟩ : RuleD)] := by rw [HL.out, List.map_append, List.map_cons, HR.out]; rfl
            have hLy : (L ++ [(⟨d1, d2, d3, 1 + ix⟩ : RuleD)]).length = L.length + 1 := by simp
            rw [← hLy, ← hLx] at hrf hv2
            exact ⟨rfl, fun k h1 h2 => hT.block k (by omega) (by omega), A2, c2, hrf, hv2, Hk4.out.trans (hT.below Hk4.out.size (fun k hk => by omega))⟩
          · go_simp
            refine (e3 _).mono ?_
            rintro e v22 ⟨rfl, hq⟩
            go_wp2_with fail
            refine hK.out _ _ trivial (fun hH2 => ?_)
            clear hK K hHeld hH2
            have hHeld : True := trivial
            replace hr := hr.below hq hr.lt
            replace hv := hv.on hq
            replace hT := hT.trans (Wr.of_below hq)
            replace hbs := Nat.le_trans hbs hq.size
            clear hq
            try simp only [Act.put, List.setIfInBounds_toArray, List.set_cons_zero, List.set_cons_succ, List.getElem_toArray, List.getElem_cons_succ, List.getElem_cons_zero]
            refine wpAnyH_ready (rs := [0, 11]) (by kernel_rfl) (by simp) ?_
            refine AllReadyH.cons rfl (fun K hK => ?_) (AllReadyH.cons rfl (fun K hK => ?_) AllReadyH.nil)
            · have c3 := hr.cell 0
              go_simp
              refine hK.out _ _ trivial (fun hH2 => ?_)
              clear hK K hHeld hH2
              have hHeld : True := trivial
              clear c3
              try simp only [Act.put, List.setIfInBounds_toArray, List.set_cons_zero, List.set_cons_succ, List.getElem_toArray, List.getElem_cons_succ, List.getElem_cons_zero]
              refine wpAnyH_ready (rs := [11]) (by kernel_rfl) (by simp) ?_
              refine AllReadyH.cons rfl (fun K hK => ?_) AllReadyH.nil
              go_simp
              refine (e4 _ (ml_below hm (Hk4.out.trans (hT.below Hk4.out.size (fun k hk => by omega))))).mono ?_
              rintro e v23 ⟨rfl, hq⟩
              go_wp2_with fail
              refine hK.out _ _ trivial (fun hH2 => ?_)
              clear hK K hHeld hH2
              have hHeld : True := trivial
              replace hr := hr.below hq hr.lt
              replace hv := hv.on hq
              replace hT := hT.trans (Wr.of_below hq)
              replace hbs := Nat.le_trans hbs hq.size
              clear hq
              try simp only [Act.put, List.setIfInBounds_toArray, List.set_cons_zero, List.set_cons_succ, List.getElem_toArray, List.getElem_cons_succ, List.getElem_cons_zero]
              refine wpAnyH_take (i := 12) (v := ?v14) rfl (by kernel_rfl) (by kernel_rfl) (by kernel_rfl) (fun _ _ _ h => h) (Or.inl ⟨by rfl, ?hy14⟩) hHeld ?rest14
              case hy14 => (intro W hSw; (try dsimp only at hSw); go_simp) <;> with_reducible rfl
              try simp only [Act.put, List.setIfInBounds_toArray, List.set_cons_zero, List.set_cons_succ, List.getElem_toArray, List.getElem_cons_succ, List.getElem_cons_zero]
              refine wpAnyH_take (i := 13) (v := ?v15) rfl (by kernel_rfl) (by kernel_rfl) (by kernel_rfl) (fun _ _ _ h => h) (Or.inl ⟨by rfl, ?hy15⟩) hHeld ?rest15
              case hy15 => (intro W hSw; (try dsimp only at hSw); go_simp) <;> with_reducible rfl
              try simp only [Act.put, List.setIfInBounds_toArray, List.set_cons_zero, List.set_cons_succ, List.getElem_toArray, List.getElem_cons_succ, List.getElem_cons_zero]
              refine wpAnyH_ready (rs := [14]) (by kernel_rfl) (by simp) ?_
              refine AllReadyH.cons rfl (fun K hK => ?_) AllReadyH.nil
              go_simp
              refine hK.out _ _ trivial (fun hH2 => ?_)
              clear hK K hHeld hH2
              have hHeld : True := trivial
              have b1 : Blk (v23.alloc (.cells #[.int .i64 d1, .int .i64 d2, .int .i64 d3, .int .i64 (1 + ix)] 58)) v23.heap.size 58 #[.int .i64 d1, .int .i64 d2, .int .i64 d3, .int .i64 (1 + ix)] := Blk.new v23 58 #[.int .i64 d1, .int .i64 d2, .int .i64 d3, .int .i64 (1 + ix)]
              replace hr := hr.alloc (.cells #[.int .i64 d1, .int .i64 d2, .int .i64 d3, .int .i64 (1 + ix)] 58)
              replace hv := hv.alloc (.cells #[.int .i64 d1, .int .i64 d2, .int .i64 d3, .int .i64 (1 + ix)] 58)
              replace hT := hT.alloc (.cells #[.int .i64 d1, .int .i64 d2, .int .i64 d3, .int .i64 (1 + ix)] 58)
              replace hbs : w7.heap.size + 5 ≤ (v23.alloc (.cells #[.int .i64 d1, .int .i64 d2, .int .i64 d3, .int .i64 (1 + ix)] 58)).heap.size := by simp; omega
              generalize (v23.alloc (.cells #[.int .i64 d1, .int .i64 d2, .int .i64 d3, .int .i64 (1 + ix)] 58)) = v24 at *
              generalize v23.heap.size = N1 at *
              try simp only [Act.put, List.setIfInBounds_toArray, List.set_cons_zero, List.set_cons_succ, List.getElem_toArray, List.getElem_cons_succ, List.getElem_cons_zero]
              refine wpAnyH_ready (rs := [15]) (by kernel_rfl) (by simp) ?_
              refine AllReadyH.cons rfl (fun K hK => ?_) AllReadyH.nil
              refine step_appN (base := w7.heap.size + 5) rfl (.tmp 31) (.tmp 45) 30 rfl 58 (.agg #[.int .i64 0, .int .i64 0, .int .i64 0, .int .i64 0]) 4 32 Tryd.underlying30 (by kernel_rfl) rfl (by omega) encRule_len one_rule A1 c1 _ L rfl rfl hv _ 1 _ 1 [(⟨d1, d2, d3, 1 + ix⟩ : RuleD)] rfl rfl (Ls.blkc b1 rfl) (by unfold maxLen; omega) (by omega) hbs (L.length + 1) rfl ?_
              intro A2 c2 v25 hv2 hw2
              refine hK.out _ _ trivial (fun hH2 => ?_)
              clear hK K hHeld hH2
              have hHeld : True := trivial
              replace hr := hr.wr hw2 (fun hq => by have := (hv.block hq).1; omega)
              replace hT := hT.trans (hw2.mono (fun k hk => .inr (hv.block hk).1))
              clear hw2 hv b1
              try simp only [Act.put, List.setIfInBounds_toArray, List.set_cons_zero, List.set_cons_succ, List.getElem_toArray, List.getElem_cons_succ, List.getElem_cons_zero]
              refine wpAnyH_ready (rs := [16]) (by kernel_rfl) (by simp) ?_
              refine AllReadyH.cons rfl (fun K hK => ?_) AllReadyH.nil
              have c3 := hr.cell 0
              have f3 := hr.frozen 0
              go_simp
              refine hK.out _ _ trivial (fun hH2 => ?_)
              clear hK K hHeld hH2
              have hHeld : True := trivial
              have hw3 : Wr (fun k => k = w.heap.size) v25 (v25.setCell ⟨w.heap.size, 0, none⟩ (.slice A2 (L.length + 1) c2)) := Wr.setCell (p := ⟨w.heap.size, 0, none⟩) (Wr.refl (fun k => k = w.heap.size) v25) (.inl rfl) _
              replace hv2 := hv2.wr_up hw3 (fun k hk => by omega)
              replace hT := hT.trans (hw3.mono (fun k hk => .inl hk))
              have hrf : Blk (v25.setCell ⟨w.heap.size, 0, none⟩ (.slice A2 (L.length + 1) c2)) w.heap.size 30 #[.slice A2 (L.length + 1) c2] := by
                have h := hr.set_ 0 (.slice A2 (L.length + 1) c2)
                simpa using h
              generalize (v25.setCell ⟨w.heap.size, 0, none⟩ (.slice A2 (L.length + 1) c2)) = v26 at *
              try simp only [Act.put, List.setIfInBounds_toArray, List.set_cons_zero, List.set_cons_succ, List.getElem_toArray, List.getElem_cons_succ, List.getElem_cons_zero]
              refine wpAnyH_done (by kernel_rfl) ?_ _
              have hLx : (pre ++ [x]).map rulOf = L ++ [(⟨d1, d2, d3, 1 + ix⟩ : RuleD)] := by rw [HL.out, List.map_append, List.map_cons, HR.out]; rfl
              have hLy : (L ++ [(⟨d1, d2, d3, 1 + ix⟩ : RuleD)]).length = L.length + 1 := by simp
              rw [← hLy, ← hLx] at hrf hv2
              exact ⟨rfl, fun k h1 h2 => hT.block k (by omega) (by omega), A2, c2, hrf, hv2, Hk4.out.trans (hT.below Hk4.out.size (fun k hk => by omega))⟩
            · go_simp
              refine (e4 _ (ml_below hm (Hk4.out.trans (hT.below Hk4.out.size (fun k hk => by omega))))).mono ?_
              rintro e v27 ⟨rfl, hq⟩
              go_wp2_with fail
              refine hK.out _ _ trivial (fun hH2 => ?_)
              clear hK K hHeld hH2
              have hHeld : True := trivial
              replace hr := hr.below hq hr.lt
              replace hv := hv.on hq
              replace hT := hT.trans (Wr.of_below hq)
              replace hbs := Nat.le_trans hbs hq.size
              clear hq
              try simp only [Act.put, List.setIfInBounds_toArray, List.set_cons_zero, List.set_cons_succ, List.getElem_toArray, List.getElem_cons_succ, List.getElem_cons_zero]
              refine wpAnyH_take (i := 12) (v := ?v16) rfl (by kernel_rfl) (by kernel_rfl) (by kernel_rfl) (fun _ _ _ h => h) (Or.inl ⟨by rfl, ?hy16⟩) hHeld ?rest16
              case hy16 => (intro W hSw; (try dsimp only at hSw); go_simp) <;> with_reducible rfl
              try simp only [Act.put, List.setIfInBounds_toArray, List.set_cons_zero, List.set_cons_succ, List.getElem_toArray, List.getElem_cons_succ, List.getElem_cons_zero]
              refine wpAnyH_take (i := 13) (v := ?v17) rfl (by kernel_rfl) (by kernel_rfl) (by kernel_rfl) (fun _ _ _ h => h) (Or.inl ⟨by rfl, ?hy17⟩) hHeld ?rest17
              case hy17 => (intro W hSw; (try dsimp only at hSw); go_simp) <;> with_reducible rfl
              try simp only [Act.put, List.setIfInBounds_toArray, List.set_cons_zero, List.set_cons_succ, List.getElem_toArray, List.getElem_cons_succ, List.getElem_cons_zero]
              refine wpAnyH_ready (rs := [0, 14]) (by kernel_rfl) (by simp) ?_
              refine AllReadyH.cons rfl (fun K hK => ?_) (AllReadyH.cons rfl (fun K hK => ?_) AllReadyH.nil)
              · have c3 := hr.cell 0
                go_simp
                refine hK.out _ _ trivial (fun hH2 => ?_)
                clear hK K hHeld hH2
                have hHeld : True := trivial
                clear c3
                try simp only [Act.put, List.setIfInBounds_toArray, List.set_cons_zero, List.set_cons_succ, List.getElem_toArray, List.getElem_cons_succ, List.getElem_cons_zero]
                refine wpAnyH_ready (rs := [14]) (by kernel_rfl) (by simp) ?_
                refine AllReadyH.cons rfl (fun K hK => ?_) AllReadyH.nil
                go_simp
                refine hK.out _ _ trivial (fun hH2 => ?_)
                clear hK K hHeld hH2
                have hHeld : True := trivial
                have b1 : Blk (v27.alloc (.cells #[.int .i64 d1, .int .i64 d2, .int .i64 d3, .int .i64 (1 + ix)] 58)) v27.heap.size 58 #[.int .i64 d1, .int .i64 d2, .int .i64 d3, .int .i64 (1 + ix)] := Blk.new v27 58 #[.int .i64 d1, .int .i64 d2, .int .i64 d3, .int .i64 (1 + ix)]
                replace hr := hr.alloc (.cells #[.int .i64 d1, .int .i64 d2, .int .i64 d3, .int .i64 (1 + ix)] 58)
                replace hv := hv.alloc (.cells #[.int .i64 d1, .int .i64 d2, .int .i64 d3, .int .i64 (1 + ix)] 58)
                replace hT := hT.alloc (.cells #[.int .i64 d1, .int .i64 d2, .int .i64 d3, .int .i64 (1 + ix)] 58)
                replace hbs : w7.heap.size + 5 ≤ (v27.alloc (.cells #[.int .i64 d1, .int .i64 d2, .int .i64 d3, .int .i64 (1 + ix)] 58)).heap.size := by simp; omega
                generalize (v27.alloc (.cells #[.int .i64 d1, .int .i64 d2, .int .i64 d3, .int .i64 (1 + ix)] 58)) = v28 at *
                generalize v27.heap.size = N1 at *
                try simp only [Act.put, List.setIfInBounds_toArray, List.set_cons_zero, List.set_cons_succ, List.getElem_toArray, List.getElem_cons_succ, List.getElem_cons_zero]
                refine wpAnyH_ready (rs := [15]) (by kernel_rfl) (by simp) ?_
                refine AllReadyH.cons rfl (fun K hK => ?_) AllReadyH.nil
                refine step_appN (base := w7.heap.size + 5) rfl (.tmp 31) (.tmp 45) 30 rfl 58 (.agg #[.int .i64 0, .int .i64 0, .int .i64 0, .int .i64 0]) 4 32 Tryd.underlying30 (by kernel_rfl) rfl (by omega) encRule_len one_rule A1 c1 _ L rfl rfl hv _ 1 _ 1 [(⟨d1, d2, d3, 1 + ix⟩ : RuleD)] rfl rfl (Ls.blkc b1 rfl) (by unfold maxLen; omega) (by omega) hbs (L.length + 1) rfl ?_
                intro A2 c2 v29 hv2 hw2
                refine hK.out _ _ trivial (fun hH2 => ?_)
                clear hK K hHeld hH2
                have hHeld : True := trivial
                replace hr := hr.wr hw2 (fun hq => by have := (hv.block hq).1; omega)
                replace hT := hT.trans (hw2.mono (fun k hk => .inr (hv.block hk).1))
                clear hw2 hv b1
                try simp only [Act.put, List.setIfInBounds_toArray, List.set_cons_zero, List.set_cons_succ, List.getElem_toArray, List.getElem_cons_succ, List.getElem_cons_zero]
                refine wpAnyH_ready (rs := [16]) (by kernel_rfl) (by simp) ?_
                refine AllReadyH.cons rfl (fun K hK => ?_) AllReadyH.nil
                have c3 := hr.cell 0
                have f3 := hr.frozen 0
                go_simp
                refine hK.out _ _ trivial (fun hH2 => ?_)
                clear hK K hHeld hH2
                have hHeld : True := trivial
                have hw3 : Wr (fun k => k = w.heap.size) v29 (v29.setCell ⟨w.heap.size, 0, none⟩ (.slice A2 (L.length + 1) c2)) := Wr.setCell (p := ⟨w.heap.size, 0, none⟩) (Wr.refl (fun k => k = w.heap.size) v29) (.inl rfl) _
                replace hv2 := hv2.wr_up hw3 (fun k hk => by omega)
                replace hT := hT.trans (hw3.mono (fun k hk => .inl hk))
                have hrf : Blk (v29.setCell ⟨w.heap.size, 0, none⟩ (.slice A2 (L.length + 1) c2)) w.heap.size 30 #[.slice A2 (L.length + 1) c2] := by
                  have h := hr.set_ 0 (.slice A2 (L.length + 1) c2)
                  simpa using h
                generalize (v29.setCell ⟨w.heap.size, 0, none⟩ (.slice A2 (L.length + 1) c2)) = v30 at *
                try simp only [Act.put, List.setIfInBounds_toArray, List.set_cons_zero, List.set_cons_succ, List.getElem_toArray, List.getElem_cons_succ, List.getElem_cons_zero]
                refine wpAnyH_done (by kernel_rfl) ?_ _
                have hLx : (pre ++ [x]).map rulOf = L ++ [(⟨d1, d2, d3, 1 + ix⟩ : RuleD)] := by rw [HL.out, List.map_append, List.map_cons, HR.out]; rfl
                have hLy : (L ++ [(⟨d1, d2, d3, 1 + ix⟩ : RuleD)]).length = L.length + 1 := by simp
                rw [← hLy, ← hLx] at hrf hv2
                exact ⟨rfl, fun k h1 h2 => hT.block k (by omega) (by omega), A2, c2, hrf, hv2, Hk4.out.trans (hT.below Hk4.out.size (fun k hk => by omega))⟩
              · go_simp
                refine hK.out _ _ trivial (fun hH2 => ?_)
                clear hK K hHeld hH2
                have hHeld : True := trivial
                have b1 : Blk (v27.alloc (.cells #[.int .i64 d1, .int .i64 d2, .int .i64 d3, .int .i64 (1 + ix)] 58)) v27.heap.size 58 #[.int .i64 d1, .int .i64 d2, .int .i64 d3, .int .i64 (1 + ix)] := Blk.new v27 58 #[.int .i64 d1, .int .i64 d2, .int .i64 d3, .int .i64 (1 + ix)]
                replace hr := hr.alloc (.cells #[.int .i64 d1, .int .i64 d2, .int .i64 d3, .int .i64 (1 + ix)] 58)
                replace hv := hv.alloc (.cells #[.int .i64 d1, .int .i64 d2, .int .i64 d3, .int .i64 (1 + ix)] 58)
                replace hT := hT.alloc (.cells #[.int .i64 d1, .int .i64 d2, .int .i64 d3, .int .i64 (1 + ix)] 58)
                replace hbs : w7.heap.size + 5 ≤ (v27.alloc (.cells #[.int .i64 d1, .int .i64 d2, .int .i64 d3, .int .i64 (1 + ix)] 58)).heap.size := by simp; omega
                generalize (v27.alloc (.cells #[.int .i64 d1, .int .i64 d2, .int .i64 d3, .int .i64 (1 + ix)] 58)) = v31 at *
                generalize v27.heap.size = N1 at *
                try simp only [Act.put, List.setIfInBounds_toArray, List.set_cons_zero, List.set_cons_succ, List.getElem_toArray, List.getElem_cons_succ, List.getElem_cons_zero]
                refine wpAnyH_ready (rs := [0]) (by kernel_rfl) (by simp) ?_
                refine AllReadyH.cons rfl (fun K hK => ?_) AllReadyH.nil
                have c3 := hr.cell 0
                go_simp
                refine hK.out _ _ trivial (fun hH2 => ?_)
                clear hK K hHeld hH2
                have hHeld : True := trivial
                clear c3
                try simp only [Act.put, List.setIfInBounds_toArray, List.set_cons_zero, List.set_cons_succ, List.getElem_toArray, List.getElem_cons_succ, List.getElem_cons_zero]
                refine wpAnyH_ready (rs := [15]) (by kernel_rfl) (by simp) ?_
                refine AllReadyH.cons rfl (fun K hK => ?_) AllReadyH.nil
                refine step_appN (base := w7.heap.size + 5) rfl (.tmp 31) (.tmp 45) 30 rfl 58 (.agg #[.int .i64 0, .int .i64 0, .int .i64 0, .int .i64 0]) 4 32 Tryd.underlying30 (by kernel_rfl) rfl (by omega) encRule_len one_rule A1 c1 _ L rfl rfl hv _ 1 _ 1 [(⟨d1, d2, d3, 1 + ix⟩ : RuleD)] rfl rfl (Ls.blkc b1 rfl) (by unfold maxLen; omega) (by omega) hbs (L.length + 1) rfl ?_
                intro A2 c2 v32 hv2 hw2
                refine hK.out _ _ trivial (fun hH2 => ?_)
                clear hK K hHeld hH2
                have hHeld : True := trivial
                replace hr := hr.wr hw2 (fun hq => by have := (hv.block hq).1; omega)
                replace hT := hT.trans (hw2.mono (fun k hk => .inr (hv.block hk).1))
                clear hw2 hv b1
                try simp only [Act.put, List.setIfInBounds_toArray, List.set_cons_zero, List.set_cons_succ, List.getElem_toArray, List.getElem_cons_succ, List.getElem_cons_zero]
                refine wpAnyH_ready (rs := [16]) (by kernel_rfl) (by simp) ?_
                refine AllReadyH.cons rfl (fun K hK => ?_) AllReadyH.nil
                have c3 := hr.cell 0
                have f3 := hr.frozen 0
                go_simp
                refine hK.out _ _ trivial (fun hH2 => ?_)
                clear hK K hHeld hH2
                have hHeld : True := trivial
                have hw3 : Wr (fun k => k = w.heap.size) v32 (v32.setCell ⟨w.heap.size, 0, none⟩ (.slice A2 (L.length + 1) c2)) := Wr.setCell (p := ⟨w.heap.size, 0, none⟩) (Wr.refl (fun k => k = w.heap.size) v32) (.inl rfl) _
                replace hv2 := hv2.wr_up hw3 (fun k hk => by omega)
                replace hT := hT.trans (hw3.mono (fun k hk => .inl hk))
                have hrf : Blk (v32.setCell ⟨w.heap.size, 0, none⟩ (.slice A2 (L.length + 1) c2)) w.heap.size 30 #[.slice A2 (L.length + 1) c2] := by
                  have h := hr.set_ 0 (.slice A2 (L.length + 1) c2)
                  simpa using h
                generalize (v32.setCell ⟨w.heap.size, 0, none⟩ (.slice A2 (L.length + 1) c2)) = v33 at *
                try simp only [Act.put, List.setIfInBounds_toArray, List.set_cons_zero, List.set_cons_succ, List.getElem_toArray, List.getElem_cons_succ, List.getElem_cons_zero]
                refine wpAnyH_done (by kernel_rfl) ?_ _
                have hLx : (pre ++ [x]).map rulOf = L ++ [(⟨d1, d2, d3, 1 + ix⟩ : RuleD)] := by rw [HL.out, List.map_append, List.map_cons, HR.out]; rfl
                have hLy : (L ++ [(⟨d1, d2, d3, 1 + ix⟩ : RuleD)]).length = L.length + 1 := by simp
                rw [← hLy, ← hLx] at hrf hv2
                exact ⟨rfl, fun k h1 h2 => hT.block k (by omega) (by omega), A2, c2, hrf, hv2, Hk4.out.trans (hT.below Hk4.out.size (fun k hk => by omega))⟩
    case done =>
      rintro w9 ⟨A9, c9, hr9, hv9, hB9⟩ hk9
      obtain ⟨L, hL⟩ : ∃ L, L = (partsA 32 s).map rulOf := ⟨_, rfl⟩
      obtain ⟨DD, hDD⟩ : ∃ DD, DD = w8.heap.size := ⟨_, rfl⟩
      have hLn : L.length ≤ 1048577 := by
        have h := Hpl.out
        rw [hL, List.length_map]
        omega
      rw [← hL] at hr9 hv9 HE
      rw [← hDD] at hk9 ⊢
      replace hv9 := Lib.hid hv9
      have hDlo : w.heap.size < DD := by omega
      have hDhi : DD < w7.heap.size + 5 := by omega
      clear hDD
      clear hgv u1 u2 u3 hr7 hr8 hL
      have x0 := hr9.cell 0
      have xl := hr9.lt
      cases h1 : schedB L
      · have Hv := Lib.hid (okS_no hz HE.out (.inl h1))
        go_wp2_with fail
        refine (IsSchedule_any A9 c9 L _ (hv9.out.ls encRule_len) (by omega)).mono ?_
        rw [h1]
        rintro e wa ⟨rfl, qa⟩
        have hBa := blw hB9 qa
        have hra := hr9.below qa hr9.lt
        have hva := Lib.hid (hv9.out.on qa)
        have hka := (qa.block _ (Array.getElem?_eq_some_iff.1 hk9).1).trans hk9
        clear qa
        go_wp2_with fail
        refine marks_ret1 hka ?_
        have hwp : Wr (fun q => q = DD) wa (World.putObj wa DD (.deferred none)) := Wr.putObj _ rfl
        have hBf := hBa.trans (hwp.below hBa.size (fun k hk => by omega))
        clear hwp
        generalize (World.putObj wa DD (.deferred none)) = wf at *
        refine ⟨.tuple #[.slice none 0 0, .bool false], by simp [results, Tryd.results12, go_sem], none, 0, ?_, ?_, hBf⟩
        · rw [Hv.out.2, Hv.out.1] <;> rfl
        · rw [Hv.out.2]; exact Vec.nil
      · by_cases h2 : schT L = s
        · have Hv := Lib.hid (okS_yes HE.out h1 h2)
          have h3 : ((schT L).toList == s.toList) = true := by rw [h2]; simp
          clear h2
          go_wp2_with fail
          refine (IsSchedule_any A9 c9 L _ (hv9.out.ls encRule_len) (by omega)).mono ?_
          rw [h1]
          rintro e wa ⟨rfl, qa⟩
          have hBa := blw hB9 qa
          have hra := hr9.below qa hr9.lt
          have hva := Lib.hid (hv9.out.on qa)
          have hka := (qa.block _ (Array.getElem?_eq_some_iff.1 hk9).1).trans hk9
          clear qa
          have hta := tab_below ht hBa
          clear x0 xl
          have x0 := hra.cell 0
          have xl := hra.lt
          go_wp2_with fail
          refine (scheduleText_any A9 c9 L _ (hva.out.ls encRule_len) h1 hta).mono ?_
          rintro e wb ⟨rfl, qb⟩
          generalize schT L = tx at *
          have hBb := blw hBa qb
          have hrb := hra.below qb hra.lt
          have hvb := Lib.hid (hva.out.on qb)
          have hkb := (qb.block _ (Array.getElem?_eq_some_iff.1 hka).1).trans hka
          clear qb
          clear x0 xl
          have x0 := hrb.cell 0
          have xl := hrb.lt
          go_wp2_with fail
          refine marks_ret1 hkb ?_
          have hwp : Wr (fun q => q = DD) wb (World.putObj wb DD (.deferred none)) := Wr.putObj _ rfl
          have hBf := hBb.trans (hwp.below hBb.size (fun k hk => by omega))
          have hvf := hvb.out.wr_up hwp (fun k hk => by omega)
          clear hwp
          generalize (World.putObj wb DD (.deferred none)) = wf at *
          refine ⟨.tuple #[.slice A9 L.length c9, .bool true], by simp [results, Tryd.results12, go_sem], A9, c9, ?_, ?_, hBf⟩
          · rw [Hv.out.2, Hv.out.1] <;> rfl
          · rw [Hv.out.2]; exact hvf.mono (by omega)
        · have Hv := Lib.hid (okS_no hz HE.out (.inr h2))
          have h3 : ((schT L).toList == s.toList) = false := str_ne h2
          clear h2
          go_wp2_with fail
          refine (IsSchedule_any A9 c9 L _ (hv9.out.ls encRule_len) (by omega)).mono ?_
          rw [h1]
          rintro e wa ⟨rfl, qa⟩
          have hBa := blw hB9 qa
          have hra := hr9.below qa hr9.lt
          have hva := Lib.hid (hv9.out.on qa)
          have hka := (qa.block _ (Array.getElem?_eq_some_iff.1 hk9).1).trans hk9
          clear qa
          have hta := tab_below ht hBa
          clear x0 xl
          have x0 := hra.cell 0
          have xl := hra.lt
          go_wp2_with fail
          refine (scheduleText_any A9 c9 L _ (hva.out.ls encRule_len) h1 hta).mono ?_
          rintro e wb ⟨rfl, qb⟩
          generalize schT L = tx at *
          have hBb := blw hBa qb
          have hrb := hra.below qb hra.lt
          have hvb := Lib.hid (hva.out.on qb)
          have hkb := (qb.block _ (Array.getElem?_eq_some_iff.1 hka).1).trans hka
          clear qb
          clear x0 xl
          go_wp2_with fail
          refine marks_ret1 hkb ?_
          have hwp : Wr (fun q => q = DD) wb (World.putObj wb DD (.deferred none)) := Wr.putObj _ rfl
          have hBf := hBb.trans (hwp.below hBb.size (fun k hk => by omega))
          clear hwp
          generalize (World.putObj wb DD (.deferred none)) = wf at *
          refine ⟨.tuple #[.slice none 0 0, .bool false], by simp [results, Tryd.results12, go_sem], none, 0, ?_, ?_, hBf⟩
          · rw [Hv.out.2, Hv.out.1] <;> rfl
          · rw [Hv.out.2]; exact Vec.nil

end Go.Proofs.YtopfcfedcmpamaaDoor
