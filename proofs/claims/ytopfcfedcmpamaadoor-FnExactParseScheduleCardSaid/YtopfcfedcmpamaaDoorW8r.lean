/- Contracts: ParseSchedule of the reference. -/
import Derived.Test.YtopfcfedcmpamaaDoorW8q
import Derived.Test.YtopfcfedcmpamaaDoorW8p
namespace Go.Proofs.YtopfcfedcmpamaaDoor
set_option linter.unusedVariables false
set_option linter.unusedSimpArgs false
open Go.RowKit
attribute [local go_sem] Aft.cell

/-- the rules of the first k words -/
def rulK (W : List ByteArray) (k : Nat) : List RuleD := (W.take k).map rulQ
theorem rulK_succ {W : List ByteArray} {k : Nat} (h : k < W.length) : rulK W (k + 1) = rulK W k ++ [rulQ W[k]] := by
  unfold rulK
  rw [List.take_succ_eq_append_getElem h, List.map_append]
  rfl
theorem rulK_le (W : List ByteArray) (k : Nat) : (rulK W k).length ≤ k := by unfold rulK; rw [List.length_map, List.length_take]; omega
theorem rulK_end {s : ByteArray} {k : Nat} (h : k = 9 ∨ (k ≤ 9 ∧ (partsA 32 s).length ≤ k)) : rulK (partsA 32 s) k = qRul s := by
  unfold rulK qRul
  rcases h with rfl | ⟨h1, h2⟩
  · rfl
  · rw [List.take_of_length_le h2, List.take_of_length_le (by omega)]
theorem okT_no {s : ByteArray} {l : List RuleD} (hz : ¬ s.size = 0) (hE : qRul s = l) (h : schedB l = false ∨ ¬ schT l = s) : sB s = false ∧ keepS (okT s) (qRul s) = [] := by
  have h1 : okT s = false := by
    unfold okT
    rw [hE]
    rcases h with h | h <;> simp [h]
  have h2 : okS s = false := by rw [← okS_eq]; exact h1
  exact ⟨by simp [sB, h2, hz], by simp [keepS, h1]⟩
theorem okT_yes {s : ByteArray} {l : List RuleD} (hE : qRul s = l) (h : schedB l = true) (h2 : schT l = s) : sB s = true ∧ keepS (okT s) (qRul s) = l := by
  have h1 : okT s = true := by
    unfold okT
    rw [hE, h, h2]
    simp
  have h3 : okS s = true := by rw [← okS_eq]; exact h1
  exact ⟨by simp [sB, h3], by simp [keepS, h1, hE]⟩
theorem okT_zero {s : ByteArray} (hz : s.size = 0) : sB s = true ∧ keepS (okT s) (qRul s) = [] := ⟨by simp [sB, hz], by rw [okS_eq, okS_size hz]; rfl⟩
theorem Vec.blk {α : Type} {w : World} {base sz n c : Nat} {t : TypeId} {en : α → List Value} {A : Option Addr} {l : List α} (h : Vec w base t en sz (.slice A n c) l) {g : Nat} (hb : blkOf A g) : ∃ cs, Blk w g t cs := by
  obtain ⟨o, rfl⟩ := hb
  rcases h.2 with ⟨h2, _⟩ | ⟨g', cap, cur, h1, h2, h3, h4⟩
  · simp at h2
  · simp at h1
    obtain ⟨⟨rfl, _⟩, _⟩ := h1
    exact ⟨cur, h3⟩
theorem Vec.apart {α β : Type} {w : World} {base base' sz sz' n c n' c' : Nat} {t t' : TypeId} {en : α → List Value} {en' : β → List Value} {A A' : Option Addr} {l : List α} {l' : List β}
    (h : Vec w base t en sz (.slice A n c) l) (h' : Vec w base' t' en' sz' (.slice A' n' c') l') (ht : t' ≠ t) : ∀ k, blkOf A' k → ¬ blkOf A k := fun k hk => by
  obtain ⟨cs, hb⟩ := h'.blk hk
  exact h.ne_of hb ht

set_option maxRecDepth 100000 in
set_option maxHeartbeats 4000000 in
theorem c_spec_ParseScheduleQ (s : ByteArray) (w : World) (hs : s.size ≤ 1048576) :
    Calls Tryd.prog 11 #[.string s] w (RetSB w 58 encRule 4 (keepS (okT s) (qRul s)) (sB s)) := by
  have hB0 := blw_alloc (Below.refl w.heap.size w) (.cells #[] 58)
  have hv0 : Vec (w.alloc (.cells #[] 58)) w.heap.size 58 encRule 4 (.slice (some ⟨w.heap.size, 0, none⟩) 0 0) ([] : List RuleD) := Vec.empty _ _ _ (Nat.le_refl _)
  by_cases hz : s.size = 0
  · have Hv := Lib.hid (okT_zero hz)
    have he : s.toList.isEmpty = true := by rw [ByteArray.toList_eq, List.isEmpty_iff]; exact List.length_eq_zero_iff.1 (by rw [ba_len]; exact hz)
    go_enter Tryd.func11, Tryd.ntmps11
    go_wp2_with fail
    go_ret2
    exact ⟨some ⟨w.heap.size, 0, none⟩, 0, by rw [Hv.out.2, Hv.out.1] <;> rfl, by rw [Hv.out.2]; exact hv0, hB0⟩
  · have he : s.toList.isEmpty = false := by
      rw [ByteArray.toList_eq, List.isEmpty_eq_false_iff]
      intro hc
      exact hz (by rw [← ba_len, hc]; rfl)
    obtain ⟨W, hW⟩ : ∃ W, W = partsA 32 s := ⟨_, rfl⟩
    have Hm := Lib.hid (show ∀ x ∈ W, x.size ≤ s.size from fun x hx => partsA_mem (by rw [← hW]; exact hx))
    have HW := Lib.hid hW
    have hWn : W.length ≤ 1048577 := by have := partsA_len 32 s; rw [← hW] at this; omega
    clear hW
    go_enter Tryd.func11, Tryd.ntmps11
    go_wp2_with fail
    change Calls Tryd.prog 20 #[.string s, .int .u8 (32 : UInt8).toNat] (w.alloc (.cells #[] 58)) _
    generalize (w.alloc (.cells #[] 58)) = w0 at *
    refine (l1Split_any s 32 w0 hs).mono ?_
    rintro e w1 ⟨A1, c1, rfl, hV, q1⟩
    rw [← HW.out] at hV
    simp only [← HW.out]
    have hB1 := blw hB0 q1
    have hv1 := hv0.on q1
    clear q1 hB0 hv0
    go_wp2_with fail
    go_loopw [4, 6] (fun v i wr => ∃ (k : Nat) (A9 : Option Addr) (c9 : Nat), k ≤ W.length ∧ k ≤ 9 ∧ i = .int .i64 k ∧ v = .slice A9 (rulK W k).length c9 ∧ Below w.heap.size w wr ∧ Vec wr w.heap.size 58 encRule 4 (.slice A9 (rulK W k).length c9) (rulK W k) ∧ Vec wr w0.heap.size 9 encStr 1 (.slice A1 W.length c1) W) (fun _ i _ => W.length - (intOf i).toNat)
    case atStart => exact ⟨0, _, 0, Nat.zero_le _, by omega, rfl, rfl, hB1, hv1, hV⟩
    case round =>
      clear hB1 hv1 hV
      obtain ⟨k, A9, c9, hk, hk9, rfl, rfl, hb, hv, hV⟩ := hrel
      have hLk := rulK_le W k
      by_cases hlt : k < W.length
      · by_cases h8 : k ≤ 8
        · have hAp := hv.apart hV (by decide)
          obtain ⟨x, hx⟩ : ∃ x, x = W[k] := ⟨_, rfl⟩
          have hxz : x.size ≤ s.size := by rw [hx]; exact Hm.out _ (List.getElem_mem hlt)
          obtain ⟨bW, oW, rfl, ltW, cW⟩ := (hV.ls encStr_len).at_String hlt
          rw [← hx] at cW
          have HE := Lib.hid (show rulK W (k + 1) = rulK W k ++ [rulQ x] by rw [rulK_succ hlt, ← hx])
          clear hx
          have i0 : (0 : Int) ≤ (k : Int) := by omega
          have i1 : (k : Int) < (W.length : Int) := by omega
          have i8 : (k : Int) ≤ 8 := by omega
          have hR : ∀ W', Calls Tryd.prog 32 #[.string x] W' fun e w' => e = .returned (.agg #[.int .i64 (rulQ x).s, .int .i64 (rulQ x).e, .int .i64 (rulQ x).d, .int .i64 (rulQ x).a]) ∧ Below W'.heap.size W' w' := fun W' => l4Read_any x W' (by omega)
          generalize rulQ x = r at *
          go_wp2_with fail
          refine (hR _).mono ?_
          rintro e w3 ⟨rfl, q3⟩
          dsimp only
          have hb3 := blw hb q3
          have hv3 := hv.on q3
          have hV3 := hV.on q3
          have hF1 : (rulK W k).length + [r].length ≤ maxLen := by unfold maxLen; simp; omega
          have hF2 : ((rulK W k).length + [r].length) * 32 ≤ 140737488355328 := by simp; omega
          have hs3 := hb3.size
          clear q3 hR cW ltW
          go_wp2_with (at_builtin; refine wpList_app rfl (.tmp 23) (.tmp 29) 30 rfl 58 (.agg #[.int .i64 0, .int .i64 0, .int .i64 0, .int .i64 0]) 4 32 Tryd.underlying30 (by kernel_rfl) rfl (by omega) encRule_len one_rule A9 c9 (rulK W k) rfl (hv3.alloc _) (some ⟨w3.heap.size, 0, none⟩) 1 (w3.heap.size + 1) [r] rfl (Ls.one_at rfl rfl) hF1 hF2 (by simp; omega) ?_; intro A2 c2 w4 hv4 hw4)
          go_roundw
          case rel =>
            refine ⟨k + 1, A2, c2, by omega, by omega, by go_num, by rw [HE.out]; simp, (blw_alloc hb3 _).trans (hw4.below (by simp; omega) (fun q hq => (hv3.block hq).1)), by rw [HE.out]; exact hv4, (hV3.alloc _).wr_b hw4 hAp⟩
          case measure => simp [intOf]; omega
        · have HE := Lib.hid (show rulK W k = qRul s by rw [HW.out]; exact rulK_end (.inl (by omega)))
          have i0 : (k : Int) < (W.length : Int) := by omega
          have i8 : ¬ (k : Int) ≤ 8 := by omega
          obtain ⟨L, hL⟩ : ∃ L, L = rulK W k := ⟨_, rfl⟩
          have hLn : L.length ≤ 9 := by rw [hL]; exact Nat.le_trans (rulK_le _ _) hk9
          rw [← hL] at hv HE ⊢
          have HE2 := Lib.hid HE.out.symm
          clear hL HE
          cases h1 : schedB L
          · have Hv := Lib.hid (okT_no hz HE2.out (.inl h1))
            go_wp2_with fail
            refine (l4Good_any A9 c9 L _ (hv.ls encRule_len) (by omega)).mono ?_
            rw [h1]
            rintro e wa ⟨rfl, qa⟩
            have hBa := blw hb qa
            have hva := hv.on qa
            clear qa
            have hbe : Below wa.heap.size wa (wa.alloc (.cells #[] 58)) := blw_alloc (Below.refl _ _) _
            have hve : Vec (wa.alloc (.cells #[] 58)) w.heap.size 58 encRule 4 (.slice (some ⟨wa.heap.size, 0, none⟩) 0 0) ([] : List RuleD) := Vec.empty _ _ _ hBa.size
            go_wp2_with fail
            go_ret2
            exact ⟨some ⟨wa.heap.size, 0, none⟩, 0, by rw [Hv.out.2, Hv.out.1] <;> rfl, by rw [Hv.out.2]; exact hve, blw hBa hbe⟩
          · by_cases h2 : schT L = s
            · have Hv := Lib.hid (okT_yes HE2.out h1 h2)
              have h3 : ((schT L).toList == s.toList) = true := by rw [h2]; simp
              clear h2
              go_wp2_with fail
              refine (l4Good_any A9 c9 L _ (hv.ls encRule_len) (by omega)).mono ?_
              rw [h1]
              rintro e wa ⟨rfl, qa⟩
              have hBa := blw hb qa
              have hva := hv.on qa
              clear qa
              go_wp2_with fail
              refine (l4Text_any A9 c9 L _ (hva.ls encRule_len) h1).mono ?_
              rintro e wb ⟨rfl, qb⟩
              generalize schT L = tx at *
              have hBb := blw hBa qb
              have hvb := hva.on qb
              clear qb
              go_wp2_with fail
              go_ret2
              exact ⟨A9, c9, by rw [Hv.out.2, Hv.out.1] <;> rfl, by rw [Hv.out.2]; exact hvb, hBb⟩
            · have Hv := Lib.hid (okT_no hz HE2.out (.inr h2))
              have h3 : ((schT L).toList == s.toList) = false := str_ne h2
              clear h2
              go_wp2_with fail
              refine (l4Good_any A9 c9 L _ (hv.ls encRule_len) (by omega)).mono ?_
              rw [h1]
              rintro e wa ⟨rfl, qa⟩
              have hBa := blw hb qa
              have hva := hv.on qa
              clear qa
              go_wp2_with fail
              refine (l4Text_any A9 c9 L _ (hva.ls encRule_len) h1).mono ?_
              rintro e wb ⟨rfl, qb⟩
              generalize schT L = tx at *
              have hBb := blw hBa qb
              have hvb := hva.on qb
              clear qb
              have hbe : Below wb.heap.size wb (wb.alloc (.cells #[] 58)) := blw_alloc (Below.refl _ _) _
              have hve : Vec (wb.alloc (.cells #[] 58)) w.heap.size 58 encRule 4 (.slice (some ⟨wb.heap.size, 0, none⟩) 0 0) ([] : List RuleD) := Vec.empty _ _ _ hBb.size
              go_wp2_with fail
              go_ret2
              exact ⟨some ⟨wb.heap.size, 0, none⟩, 0, by rw [Hv.out.2, Hv.out.1] <;> rfl, by rw [Hv.out.2]; exact hve, blw hBb hbe⟩
      · have HE := Lib.hid (show rulK W k = qRul s by rw [HW.out]; exact rulK_end (.inr ⟨hk9, by rw [← HW.out]; omega⟩))
        have i0 : ¬ (k : Int) < (W.length : Int) := by omega
        obtain ⟨L, hL⟩ : ∃ L, L = rulK W k := ⟨_, rfl⟩
        have hLn : L.length ≤ 9 := by rw [hL]; exact Nat.le_trans (rulK_le _ _) hk9
        rw [← hL] at hv HE ⊢
        have HE2 := Lib.hid HE.out.symm
        clear hL HE
        cases h1 : schedB L
        · have Hv := Lib.hid (okT_no hz HE2.out (.inl h1))
          go_wp2_with fail
          refine (l4Good_any A9 c9 L _ (hv.ls encRule_len) (by omega)).mono ?_
          rw [h1]
          rintro e wa ⟨rfl, qa⟩
          have hBa := blw hb qa
          have hva := hv.on qa
          clear qa
          have hbe : Below wa.heap.size wa (wa.alloc (.cells #[] 58)) := blw_alloc (Below.refl _ _) _
          have hve : Vec (wa.alloc (.cells #[] 58)) w.heap.size 58 encRule 4 (.slice (some ⟨wa.heap.size, 0, none⟩) 0 0) ([] : List RuleD) := Vec.empty _ _ _ hBa.size
          go_wp2_with fail
          go_ret2
          exact ⟨some ⟨wa.heap.size, 0, none⟩, 0, by rw [Hv.out.2, Hv.out.1] <;> rfl, by rw [Hv.out.2]; exact hve, blw hBa hbe⟩
        · by_cases h2 : schT L = s
          · have Hv := Lib.hid (okT_yes HE2.out h1 h2)
            have h3 : ((schT L).toList == s.toList) = true := by rw [h2]; simp
            clear h2
            go_wp2_with fail
            refine (l4Good_any A9 c9 L _ (hv.ls encRule_len) (by omega)).mono ?_
            rw [h1]
            rintro e wa ⟨rfl, qa⟩
            have hBa := blw hb qa
            have hva := hv.on qa
            clear qa
            go_wp2_with fail
            refine (l4Text_any A9 c9 L _ (hva.ls encRule_len) h1).mono ?_
            rintro e wb ⟨rfl, qb⟩
            generalize schT L = tx at *
            have hBb := blw hBa qb
            have hvb := hva.on qb
            clear qb
            go_wp2_with fail
            go_ret2
            exact ⟨A9, c9, by rw [Hv.out.2, Hv.out.1] <;> rfl, by rw [Hv.out.2]; exact hvb, hBb⟩
          · have Hv := Lib.hid (okT_no hz HE2.out (.inr h2))
            have h3 : ((schT L).toList == s.toList) = false := str_ne h2
            clear h2
            go_wp2_with fail
            refine (l4Good_any A9 c9 L _ (hv.ls encRule_len) (by omega)).mono ?_
            rw [h1]
            rintro e wa ⟨rfl, qa⟩
            have hBa := blw hb qa
            have hva := hv.on qa
            clear qa
            go_wp2_with fail
            refine (l4Text_any A9 c9 L _ (hva.ls encRule_len) h1).mono ?_
            rintro e wb ⟨rfl, qb⟩
            generalize schT L = tx at *
            have hBb := blw hBa qb
            have hvb := hva.on qb
            clear qb
            have hbe : Below wb.heap.size wb (wb.alloc (.cells #[] 58)) := blw_alloc (Below.refl _ _) _
            have hve : Vec (wb.alloc (.cells #[] 58)) w.heap.size 58 encRule 4 (.slice (some ⟨wb.heap.size, 0, none⟩) 0 0) ([] : List RuleD) := Vec.empty _ _ _ hBb.size
            go_wp2_with fail
            go_ret2
            exact ⟨some ⟨wb.heap.size, 0, none⟩, 0, by rw [Hv.out.2, Hv.out.1] <;> rfl, by rw [Hv.out.2]; exact hve, blw hBb hbe⟩

theorem keepS_same {s : ByteArray} : keepS (okT s) (qRul s) = keepS (okS s) (pRul s) := by
  rw [okS_eq]
  cases hk : okS s
  · rfl
  · rw [(okS_same hk).2]
theorem c_spec_ParseSchedule (s : ByteArray) (w : World) (hs : s.size ≤ 1048576) :
    Calls Tryd.prog 11 #[.string s] w (RetSB w 58 encRule 4 (keepS (okS s) (pRul s)) (sB s)) := by
  have h := c_spec_ParseScheduleQ s w hs
  rw [keepS_same] at h
  exact h

end Go.Proofs.YtopfcfedcmpamaaDoor
