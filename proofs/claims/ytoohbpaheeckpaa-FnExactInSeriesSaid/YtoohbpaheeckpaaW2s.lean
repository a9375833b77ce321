/- Contracts: InSeries. -/
import Derived.Test.YtoohbpaheeckpaaW2r
import Derived.Test.YtoohbpaheeckpaaV
namespace Go.Proofs.Ytoohbpaheeckpaa
set_option linter.unusedVariables false
set_option linter.unusedSimpArgs false
open Go.RowKit
attribute [local go_sem] Aft.cell

/-- the Ids of the records of a series -/
def serD (d : List RD) (s : Int) : List Int := (d.filter fun x => x.2.1 == s).map (·.1)
def serK (l : List Rec) (s : Int) (k : Nat) : List Int := serD ((l.take k).map dat) s
theorem serK_le (l : List Rec) (s : Int) (k : Nat) : (serK l s k).length ≤ l.length := by
  unfold serK serD
  rw [List.length_map]
  refine Nat.le_trans (List.length_filter_le _ _) ?_
  simp; omega
theorem serK_yes {l : List Rec} {s : Int} {k : Nat} (h : k < l.length) (hs : (l[k].series == s) = true) : serK l s (k + 1) = serK l s k ++ [l[k].id] := by
  unfold serK serD
  rw [List.take_succ_eq_append_getElem h, List.map_append, List.filter_append, List.map_append]
  congr 1
  simp only [List.map_cons, List.map_nil, List.filter_cons, List.filter_nil]
  rw [if_pos (by simpa [dat] using hs)]
  rfl
theorem serK_no {l : List Rec} {s : Int} {k : Nat} (h : k < l.length) (hs : (l[k].series == s) = false) : serK l s (k + 1) = serK l s k := by
  unfold serK serD
  rw [List.take_succ_eq_append_getElem h, List.map_append, List.filter_append, List.map_append]
  simp only [List.map_cons, List.map_nil, List.filter_cons, List.filter_nil]
  rw [if_neg (by simpa [dat] using hs)]
  simp
theorem serK_zero (l : List Rec) (s : Int) : serK l s 0 = [] := by simp [serK, serD]
def inSerB (l : List Rec) (s : Int) : Bool := recsB l && (decide (1 ≤ s) && decide (s ≤ 99))
def inSerL (l : List Rec) (s : Int) : List Int := if inSerB l s then serK l s l.length else []
theorem inSerL_le (l : List Rec) (s : Int) : (inSerL l s).length ≤ l.length := by
  unfold inSerL
  split
  · exact serK_le _ _ _
  · simp
theorem inSer_dat {l l' : List Rec} (h : l'.map dat = l.map dat) (s : Int) : inSerB l' s = inSerB l s ∧ inSerL l' s = inSerL l s := by
  have h1 : inSerB l' s = inSerB l s := by unfold inSerB; rw [recsB_dat h]
  refine ⟨h1, ?_⟩
  unfold inSerL
  rw [h1]
  have h2 : l'.length = l.length := by simpa using congrArg List.length h
  unfold serK
  rw [List.take_length, List.take_length, h]

set_option maxHeartbeats 2000000 in
theorem c_impl_InSeries (A : Option Addr) (c : Nat) (l : List Rec) (s : Int) (w : World) (hl : Ls w w.heap.size encRec 4 A l) (he : EvR w l) (hm : l.length + totR l ≤ 1048576) :
    Calls Try.prog 20 #[.slice A l.length c, .int .i64 s] w (RetSB w 3 encInt 1 (inSerL l s) (inSerB l s)) := by
  have hlen : (l.length : Int) ≤ 1048576 := by omega
  have hA := AreRecords_any A c l w hl he hm
  cases h1 : recsB l
  · rw [h1] at hA
    have Hv := Lib.hid (show inSerB l s = false ∧ inSerL l s = [] by simp [inSerL, inSerB, h1])
    go_enter Try.func20, Try.ntmps20
    go_wp2_with fail
    refine hA.mono ?_
    rintro e w1 ⟨rfl, hb1⟩
    go_wp2_with fail
    go_ret2
    exact ⟨none, 0, by rw [Hv.out.1, Hv.out.2]; rfl, by rw [Hv.out.2]; exact Vec.nil, hb1⟩
  · rw [h1] at hA
    have hI := fun w => isId_any s w
    cases h2 : (decide (1 ≤ s) && decide (s ≤ 99))
    · have Hv := Lib.hid (show inSerB l s = false ∧ inSerL l s = [] by simp only [inSerL, inSerB, h1, h2]; exact ⟨rfl, rfl⟩)
      rw [h2] at hI
      go_enter Try.func20, Try.ntmps20
      go_wp2_with fail
      refine hA.mono ?_
      rintro e w1 ⟨rfl, hb1⟩
      go_wp2_with fail
      refine (hI _).mono ?_
      rintro e w2 ⟨rfl, rfl⟩
      go_wp2_with fail
      go_ret2
      exact ⟨none, 0, by rw [Hv.out.1, Hv.out.2]; rfl, by rw [Hv.out.2]; exact Vec.nil, hb1⟩
    · have Hv := Lib.hid (show inSerB l s = true ∧ inSerL l s = serK l s l.length by
        have h : inSerB l s = true := by simp only [inSerB, h1, h2]; rfl
        exact ⟨h, by rw [inSerL, if_pos h]⟩)
      rw [h2] at hI
      go_enter Try.func20, Try.ntmps20
      go_wp2_with fail
      refine hA.mono ?_
      rintro e w1 ⟨rfl, hb1⟩
      go_wp2_with fail
      refine (hI _).mono ?_
      rintro e w2 ⟨rfl, rfl⟩
      go_wp2_with fail
      clear hI hA h1 h2
      go_loopw [6, 19] (fun v i wr => ∃ (k : Nat) (A' : Option Addr) (c' : Nat), k ≤ l.length ∧ i = .int .i64 k ∧ v = .slice A' (serK l s k).length c' ∧ Vec wr w.heap.size 3 encInt 1 (.slice A' (serK l s k).length c') (serK l s k) ∧ Below w.heap.size w wr) (fun _ i _ => l.length - (intOf i).toNat)
      case atStart => exact ⟨0, none, 0, Nat.zero_le _, rfl, by rw [serK_zero]; rfl, by rw [serK_zero]; exact Vec.nil, hb1⟩
      case round =>
        obtain ⟨k, A', c', hk, rfl, rfl, hv, hb⟩ := hrel
        by_cases hlt : k < l.length
        · obtain ⟨b, off, rfl, hbb, hc0, hc1, hc2, hc3⟩ := (hl.below hb).at_Record hlt
          have hsz := hb.size
          have hle := serK_le l s k
          cases h1 : (l[k].series == s)
          · have Hk := Lib.hid (serK_no hlt h1)
            go_wp2_with fail
            go_roundw
            case rel => exact ⟨k + 1, A', c', by omega, by go_num, by rw [Hk.out], by rw [Hk.out]; exact hv.alloc _, blw_alloc hb _⟩
            case measure => simp [intOf]; omega
          · have Hk := Lib.hid (serK_yes hlt h1)
            have hF1 : (serK l s k).length + [l[k].id].length ≤ maxLen := by unfold maxLen; simp; omega
            have hF2 : ((serK l s k).length + [l[k].id].length) * 8 ≤ 140737488355328 := by simp; omega
            go_wp2_with (at_builtin; refine wpList_app rfl (.tmp 27) (.tmp 30) 46 rfl 3 (.int .i64 0) 1 8 Try.underlying46 (by kernel_rfl) rfl (by omega) encInt_len one_int A' c' (serK l s k) rfl ((hv.alloc _).alloc _) (some ⟨wr.heap.size + 1, 0, none⟩) 1 (wr.heap.size + 2) [l[k].id] rfl (Ls.one_at (by simp) rfl) hF1 hF2 (by simp; omega) ?_; intro A2 c2 w3 hv3 hw3)
            go_roundw
            case rel =>
              refine ⟨k + 1, A2, c2, by omega, by go_num, by rw [Hk.out]; simp, by rw [Hk.out]; exact hv3, ?_⟩
              exact (blw_alloc (blw_alloc hb _) _).trans (hw3.below (by simp; omega) (fun q hq => by have := (hv.block hq).1; omega))
            case measure => simp [intOf]; omega
        · have hkk : k = l.length := by omega
          subst hkk
          go_wp2_with fail
          go_ret2
          exact ⟨A', c', by rw [Hv.out.1, Hv.out.2]; rfl, by rw [Hv.out.2]; exact hv, hb⟩

set_option maxHeartbeats 2000000 in
theorem c_spec_InSeries (A : Option Addr) (c : Nat) (l : List Rec) (s : Int) (w : World) (hl : Ls w w.heap.size encRec 4 A l) (he : EvR w l) (hm : l.length + totR l ≤ 1048576) :
    Calls Try.prog 19 #[.slice A l.length c, .int .i64 s] w (RetSB w 3 encInt 1 (inSerL l s) (inSerB l s)) := by
  have hlen : (l.length : Int) ≤ 1048576 := by omega
  have hmk : Vec (w.alloc (.cells #[] 3)) w.heap.size 3 encInt 1 (.slice (some ⟨w.heap.size, 0, none⟩) 0 0) [] := Vec.empty _ _ _ (Nat.le_refl _)
  have hbel := blw_alloc (Below.refl w.heap.size w) (.cells #[] 3)
  have hA := l2Records_any A c l (w.alloc (.cells #[] 3)) ((hl.below hbel).more hbel.size) (fun r hr => ((he r hr).below hbel).more hbel.size) hm
  cases h1 : recsB l
  · rw [h1] at hA
    have Hv := Lib.hid (show inSerB l s = false ∧ inSerL l s = [] by simp [inSerL, inSerB, h1])
    go_enter Try.func19, Try.ntmps19
    go_wp2_with fail
    refine hA.mono ?_
    rintro e w1 ⟨rfl, hb1⟩
    go_wp2_with fail
    go_ret2
    exact ⟨_, 0, by rw [Hv.out.1, Hv.out.2]; rfl, by rw [Hv.out.2]; exact hmk.on hb1, blw hbel hb1⟩
  · rw [h1] at hA
    have hI := fun w => l1In_any s 1 99 w
    cases h2 : (decide (1 ≤ s) && decide (s ≤ 99))
    · have Hv := Lib.hid (show inSerB l s = false ∧ inSerL l s = [] by simp only [inSerL, inSerB, h1, h2]; exact ⟨rfl, rfl⟩)
      rw [h2] at hI
      go_enter Try.func19, Try.ntmps19
      go_wp2_with fail
      refine hA.mono ?_
      rintro e w1 ⟨rfl, hb1⟩
      go_wp2_with fail
      refine (hI _).mono ?_
      rintro e w2 ⟨rfl, rfl⟩
      go_wp2_with fail
      go_ret2
      exact ⟨_, 0, by rw [Hv.out.1, Hv.out.2]; rfl, by rw [Hv.out.2]; exact hmk.on hb1, blw hbel hb1⟩
    · have Hv := Lib.hid (show inSerB l s = true ∧ inSerL l s = serK l s l.length by
        have h : inSerB l s = true := by simp only [inSerB, h1, h2]; rfl
        exact ⟨h, by rw [inSerL, if_pos h]⟩)
      rw [h2] at hI
      go_enter Try.func19, Try.ntmps19
      go_wp2_with fail
      refine hA.mono ?_
      rintro e w1 ⟨rfl, hb1⟩
      go_wp2_with fail
      refine (hI _).mono ?_
      rintro e w2 ⟨rfl, rfl⟩
      go_wp2_with fail
      have hv1 := hmk.on hb1
      have hB1 := blw hbel hb1
      clear hI hA h1 h2 hmk hbel hb1
      go_loopw [6, 7] (fun v i wr => ∃ (k : Nat) (A' : Option Addr) (c' : Nat), k ≤ l.length ∧ i = .int .i64 k ∧ v = .slice A' (serK l s k).length c' ∧ Vec wr w.heap.size 3 encInt 1 (.slice A' (serK l s k).length c') (serK l s k) ∧ Below w.heap.size w wr) (fun _ i _ => l.length - (intOf i).toNat)
      case atStart => exact ⟨0, _, 0, Nat.zero_le _, rfl, by rw [serK_zero]; rfl, by rw [serK_zero]; exact hv1, hB1⟩
      case round =>
        clear hv1 hB1
        obtain ⟨k, A', c', hk, rfl, rfl, hv, hb⟩ := hrel
        by_cases hlt : k < l.length
        · obtain ⟨b, off, rfl, hbb, hc0, hc1, hc2, hc3⟩ := (hl.below hb).at_Record hlt
          have hsz := hb.size
          have hle := serK_le l s k
          cases h1 : (l[k].series == s)
          · have Hk := Lib.hid (serK_no hlt h1)
            go_wp2_with fail
            go_roundw
            case rel => exact ⟨k + 1, A', c', by omega, by go_num, by rw [Hk.out], by rw [Hk.out]; exact hv, hb⟩
            case measure => simp [intOf]; omega
          · have Hk := Lib.hid (serK_yes hlt h1)
            have hF1 : (serK l s k).length + [l[k].id].length ≤ maxLen := by unfold maxLen; simp; omega
            have hF2 : ((serK l s k).length + [l[k].id].length) * 8 ≤ 140737488355328 := by simp; omega
            go_wp2_with (at_builtin; refine wpList_app rfl (.tmp 31) (.tmp 37) 46 rfl 3 (.int .i64 0) 1 8 Try.underlying46 (by kernel_rfl) rfl (by omega) encInt_len one_int A' c' (serK l s k) rfl (hv.alloc _) (some ⟨wr.heap.size, 0, none⟩) 1 (wr.heap.size + 1) [l[k].id] rfl (Ls.one_at rfl rfl) hF1 hF2 (by simp; omega) ?_; intro A2 c2 w3 hv3 hw3)
            go_roundw
            case rel =>
              refine ⟨k + 1, A2, c2, by omega, by go_num, by rw [Hk.out]; simp, by rw [Hk.out]; exact hv3, ?_⟩
              exact (blw_alloc hb _).trans (hw3.below (by simp; omega) (fun q hq => by have := (hv.block hq).1; omega))
            case measure => simp [intOf]; omega
        · have hkk : k = l.length := by omega
          subst hkk
          go_wp2_with fail
          go_ret2
          exact ⟨A', c', by rw [Hv.out.1, Hv.out.2]; rfl, by rw [Hv.out.2]; exact hv, hb⟩

end Go.Proofs.Ytoohbpaheeckpaa
