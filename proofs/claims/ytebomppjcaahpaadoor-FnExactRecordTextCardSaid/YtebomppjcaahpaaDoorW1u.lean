/- Contracts: AppendChecksum, VerifyChecksum. -/
import Derived.Test.YtebomppjcaahpaaDoorW1s
namespace Go.Proofs.YtebomppjcaahpaaDoor
set_option linter.unusedVariables false
set_option linter.unusedSimpArgs false
open Go.RowKit Go.Shelf
attribute [local go_sem] Aft.cell

def sealB (s : ByteArray) : ByteArray := s ++ ⟨#[35]⟩ ++ numB (ckOf s.data.toList)
theorem numB_len (n : Int) (h0 : -9223372036854775808 ≤ n) (h1 : n ≤ 9223372036854775807) : (numB n).size ≤ 21 := by
  rw [numB_size]; exact Lib.itoa_length_le n h0 h1
theorem sealB_size (s : ByteArray) : s.size + 1 + 0 ≤ (sealB s).size ∧ (sealB s).size ≤ s.size + 22 := by
  have h := ckOf_bd s.data.toList
  have h2 := numB_len (ckOf s.data.toList) (by omega) (by omega)
  unfold sealB
  rw [ByteArray.size_append, ByteArray.size_append]
  have h3 : (ByteArray.mk #[35]).size = 1 := rfl
  omega
theorem sealB_eq (s : ByteArray) : (sealB s).size = s.size + 1 + (numB (ckOf s.data.toList)).size := by
  unfold sealB
  rw [ByteArray.size_append, ByteArray.size_append]
  rfl
def appB (s : ByteArray) : Bool := decide (s.size ≤ 4000) && !hasB 35 s && decide ((sealB s).size ≤ 4000)
def appS (s : ByteArray) : ByteArray := if appB s then sealB s else ⟨#[]⟩

set_option maxHeartbeats 1000000 in
theorem l1Seal_any (s : ByteArray) (w : World) (hs : s.size ≤ 4000) :
    Calls Tryd.prog 58 #[.string s] w fun e w' => e = .returned (.string (sealB s)) ∧ Below w.heap.size w w' := by
  have hc := ckOf_bd s.data.toList
  have hz := numB_len (ckOf s.data.toList) (by omega) (by omega)
  have h1 : s.size + (ByteArray.mk #[35]).size ≤ 9223372036854775807 := by show s.size + 1 ≤ _; omega
  have h2 : (s ++ ByteArray.mk #[35]).size + (numB (ckOf s.data.toList)).size ≤ 9223372036854775807 := by
    rw [ByteArray.size_append]
    have h3 : (ByteArray.mk #[35]).size = 1 := rfl
    omega
  go_enter Tryd.func58, Tryd.ntmps58
  go_wp2_with (first | (go_at_call 86; refine (l1Sum_any s _ hs).mono ?_; rintro e w1 ⟨rfl, rfl⟩) | (go_at_call 44; refine (l1Num_any (ckOf s.data.toList) (by omega) (by omega) _).mono ?_; rintro e w2 ⟨rfl, hb⟩))
  go_ret
  exact ⟨rfl, hb⟩

set_option maxHeartbeats 1000000 in
theorem c_spec_AppendChecksum (s : ByteArray) (w : World) (hs : s.size ≤ 9223372036854775807) :
    Calls Tryd.prog 24 #[.string s] w fun e w' => e = .returned (.tuple #[.string (appS s), .bool (appB s)]) ∧ Below w.heap.size w w' := by
  by_cases h1 : s.size ≤ 4000
  · have hS := l1Stands_any s 35 w hs
    cases h2 : hasB 35 s
    · rw [h2] at hS
      have hz := (sealB_size s).2
      by_cases h3 : (sealB s).size ≤ 4000
      · have Hv := Lib.hid (show appB s = true ∧ appS s = sealB s by simp [appS, appB, h1, h2, h3])
        go_enter Tryd.func24, Tryd.ntmps24
        go_wp2_with fail
        refine hS.mono ?_
        rintro e w1 ⟨rfl, rfl⟩
        go_wp2_with fail
        refine (l1Seal_any s w h1).mono ?_
        rintro e w2 ⟨rfl, hb2⟩
        go_wp2_with fail
        refine (l1Seal_any s _ h1).mono ?_
        rintro e w3 ⟨rfl, hb3⟩
        go_wp2_with fail
        go_ret2
        exact ⟨by rw [Hv.out.1, Hv.out.2]; rfl, blw hb2 hb3⟩
      · have Hv := Lib.hid (show appB s = false ∧ appS s = ⟨#[]⟩ by simp [appS, appB, h3])
        have h4 : 4000 < (sealB s).size := by omega
        go_enter Tryd.func24, Tryd.ntmps24
        go_wp2_with fail
        refine hS.mono ?_
        rintro e w1 ⟨rfl, rfl⟩
        go_wp2_with fail
        refine (l1Seal_any s w h1).mono ?_
        rintro e w2 ⟨rfl, hb2⟩
        go_wp2_with fail
        go_ret2
        exact ⟨by rw [Hv.out.1, Hv.out.2]; rfl, hb2⟩
    · rw [h2] at hS
      have Hv := Lib.hid (show appB s = false ∧ appS s = ⟨#[]⟩ by simp [appS, appB, h2])
      go_enter Tryd.func24, Tryd.ntmps24
      go_wp2_with fail
      refine hS.mono ?_
      rintro e w1 ⟨rfl, rfl⟩
      go_wp2_with fail
      go_ret2
      exact ⟨by rw [Hv.out.1, Hv.out.2]; rfl, Below.refl _ _⟩
  · have Hv := Lib.hid (show appB s = false ∧ appS s = ⟨#[]⟩ by simp [appS, appB, h1])
    have h4 : 4000 < s.size := by omega
    go_enter Tryd.func24, Tryd.ntmps24
    go_wp2_with fail
    go_ret2
    exact ⟨by rw [Hv.out.1, Hv.out.2]; rfl, Below.refl _ _⟩

set_option maxHeartbeats 1000000 in
theorem c_impl_AppendChecksum (s : ByteArray) (w : World) (hs : s.size ≤ 1048576) (ht : Tab w) (hm : Ml w) :
    Calls Tryd.prog 25 #[.string s] w fun e w' => e = .returned (.tuple #[.string (appS s), .bool (appB s)]) ∧ Below w.heap.size w w' := by
  by_cases h1 : s.size ≤ 4000
  · obtain ⟨m, hm⟩ := hm
    have hC := Any.strings_Contains Tryd.lays144 s ⟨#[35]⟩ m w (by omega) hm
    have hcc : Lib.contains s.data.toList (ByteArray.mk #[35]).data.toList = hasB 35 s := contains_one s.data.toList 35
    rw [hcc] at hC
    clear hcc
    cases h2 : hasB 35 s
    · rw [h2] at hC
      have hc := ckOf_bd s.data.toList
      have hz := numB_len (ckOf s.data.toList) (by omega) (by omega)
      have hz2 := sealB_size s
      have hD := decimal_any (ckOf s.data.toList) ⟨by omega, by omega⟩ w ht
      have h5 : s.size + (ByteArray.mk #[35]).size ≤ 9223372036854775807 := by show s.size + 1 ≤ _; omega
      have h6 : (s ++ ByteArray.mk #[35]).size + (numB (ckOf s.data.toList)).size ≤ 9223372036854775807 := by
        rw [ByteArray.size_append]
        have h3 : (ByteArray.mk #[35]).size = 1 := rfl
        omega
      have hseal : Hid (s ++ ByteArray.mk #[35] ++ numB (ckOf s.data.toList) = sealB s) := rfl
      by_cases h3 : (sealB s).size ≤ 4000
      · have Hv := Lib.hid (show appB s = true ∧ appS s = sealB s by simp [appS, appB, h1, h2, h3])
        have h8 : (s.size : Int) + 1 + ((numB (ckOf s.data.toList)).size : Int) ≤ 4000 := by
          rw [sealB_eq] at h3; omega
        go_enter Tryd.func25, Tryd.ntmps25
        go_wp2_with fail
        refine hC.mono ?_
        rintro e w1 ⟨rfl, rfl⟩
        go_wp2_with (go_at_call 60; refine (checksum_any s _ h1).mono ?_; rintro e w1 ⟨rfl, rfl⟩)
        refine hD.mono ?_
        rintro e w2 ⟨rfl, hb⟩
        go_wp2_with fail
        go_ret2
        exact ⟨by rw [Hv.out.1, Hv.out.2]; rfl, hb⟩
      · have Hv := Lib.hid (show appB s = false ∧ appS s = ⟨#[]⟩ by simp [appS, appB, h3])
        have h8 : 4000 < (s.size : Int) + 1 + ((numB (ckOf s.data.toList)).size : Int) := by
          rw [sealB_eq] at h3; omega
        go_enter Tryd.func25, Tryd.ntmps25
        go_wp2_with fail
        refine hC.mono ?_
        rintro e w1 ⟨rfl, rfl⟩
        go_wp2_with (go_at_call 60; refine (checksum_any s _ h1).mono ?_; rintro e w1 ⟨rfl, rfl⟩)
        refine hD.mono ?_
        rintro e w2 ⟨rfl, hb⟩
        go_wp2_with fail
        go_ret2
        exact ⟨by rw [Hv.out.1, Hv.out.2]; rfl, hb⟩
    · rw [h2] at hC
      have Hv := Lib.hid (show appB s = false ∧ appS s = ⟨#[]⟩ by simp [appS, appB, h2])
      go_enter Tryd.func25, Tryd.ntmps25
      go_wp2_with fail
      refine hC.mono ?_
      rintro e w1 ⟨rfl, rfl⟩
      go_wp2_with fail
      go_ret2
      exact ⟨by rw [Hv.out.1, Hv.out.2]; rfl, Below.refl _ _⟩
  · have Hv := Lib.hid (show appB s = false ∧ appS s = ⟨#[]⟩ by simp [appS, appB, h1])
    have h4 : 4000 < s.size := by omega
    go_enter Tryd.func25, Tryd.ntmps25
    go_wp2_with fail
    go_ret2
    exact ⟨by rw [Hv.out.1, Hv.out.2]; rfl, Below.refl _ _⟩

theorem hasB_parts (b : UInt8) (l : List UInt8) : b ∉ (partsL b l).head (partsL_ne b l) := by
  by_cases hm : b ∈ l
  · have hp : partsL b l = l.take (l.idxOf b) :: partsL b (l.drop (l.idxOf b + 1)) := by
      conv => lhs; rw [split_idxOf hm]
      exact partsL_hit _ take_idxOf_notin
    simp only [hp, List.head_cons]
    exact take_idxOf_notin
  · simp only [partsL_none hm, List.head_cons]
    exact hm
theorem head_len (b : UInt8) (l : List UInt8) : ((partsL b l).head (partsL_ne b l)).length ≤ l.length := by
  by_cases hm : b ∈ l
  · have hp : partsL b l = l.take (l.idxOf b) :: partsL b (l.drop (l.idxOf b + 1)) := by
      conv => lhs; rw [split_idxOf hm]
      exact partsL_hit _ take_idxOf_notin
    simp only [hp, List.head_cons, List.length_take]
    omega
  · simp only [partsL_none hm, List.head_cons]
    exact Nat.le_refl _
/-- the text ahead of the mark -/
def verT (s : ByteArray) : ByteArray := ⟨((partsL 35 s.data.toList).head (partsL_ne 35 s.data.toList)).toArray⟩
theorem verT_size (s : ByteArray) : (verT s).size ≤ s.size := by
  have h := head_len 35 s.data.toList
  rw [ba_len] at h
  show (Array.size _) ≤ _
  simpa [verT] using h
theorem verT_has (s : ByteArray) : hasB 35 (verT s) = false := by
  cases h : hasB 35 (verT s)
  · rfl
  · exact absurd (List.contains_iff_mem.1 h) (by simpa [verT] using hasB_parts 35 s.data.toList)
theorem verT_parts (s : ByteArray) : (partsA 35 s)[0]'(by unfold partsA; rw [List.length_map]; exact List.length_pos_iff.2 (partsL_ne _ _)) = verT s := by
  unfold partsA verT
  rw [List.getElem_map]
  congr 2
  rw [List.head_eq_getElem]
def verB (s : ByteArray) : Bool := decide (s.size ≤ 4000) && decide (sealB (verT s) = s)
def verS (s : ByteArray) : ByteArray := if verB s then verT s else ⟨#[]⟩
theorem verB_app (s : ByteArray) : verB s = (appB (verT s) && decide (appS (verT s) = s)) := by
  have h1 := verT_has s
  have h2 := sealB_size (verT s)
  unfold verB
  by_cases h3 : sealB (verT s) = s
  · have h4 : (sealB (verT s)).size = s.size := by rw [h3]
    by_cases h5 : s.size ≤ 4000
    · have ha : appB (verT s) = true := by
        have h6 : (verT s).size ≤ 4000 := by omega
        have h7 : (sealB (verT s)).size ≤ 4000 := by omega
        simp [appB, h1, h6, h7]
      have hs : appS (verT s) = s := by rw [appS, if_pos ha, h3]
      simp [ha, hs, h3, h5]
    · have ha : appB (verT s) = false := by
        have h7 : ¬ (sealB (verT s)).size ≤ 4000 := by omega
        simp [appB, h7]
      simp [ha, h5]
  · cases ha : appB (verT s)
    · simp [h3]
    · have hs : ¬ appS (verT s) = s := by rw [appS, if_pos ha]; exact h3
      simp [hs, h3]

set_option maxHeartbeats 1000000 in
theorem c_impl_VerifyChecksum (s : ByteArray) (w : World) (hs : s.size ≤ 1048576) (ht : Tab w) (hm : Ml w) :
    Calls Tryd.prog 27 #[.string s] w fun e w' => e = .returned (.tuple #[.string (verS s), .bool (verB s)]) ∧ Below w.heap.size w w' := by
  have hm0 := hm
  obtain ⟨m, hm⟩ := hm
  have hC := Any.strings_Cut Tryd.lays145 s ⟨#[35]⟩ m w (by omega) hm
  have e1 : (⟨(Lib.cut s.data.toList (ByteArray.mk #[35]).data.toList).1.toArray⟩ : ByteArray) = verT s := by
    show (⟨(Lib.cut s.data.toList [35]).1.toArray⟩ : ByteArray) = verT s
    rw [cut_parts]; rfl
  rw [e1] at hC
  clear e1
  have hts := verT_size s
  have hvb := verB_app s
  cases ha : appB (verT s)
  · rw [ha, Bool.false_and] at hvb
    have Hv := Lib.hid (show verB s = false ∧ verS s = ⟨#[]⟩ from ⟨hvb, by rw [verS, hvb]; rfl⟩)
    clear hvb
    go_enter Tryd.func27, Tryd.ntmps27
    go_wp2_with fail
    refine hC.mono ?_
    rintro e w1 ⟨rfl, n, rfl⟩
    have hb1 : Below w.heap.size w (w.drewN n) := below_drewN (Below.refl _ _) n
    go_wp2_with fail
    refine (c_impl_AppendChecksum (verT s) _ (by omega) (tab_below ht hb1) (ml_below hm0 hb1)).mono ?_
    rw [ha]
    rintro e w2 ⟨rfl, hb2⟩
    go_wp2_with fail
    go_ret2
    exact ⟨by rw [Hv.out.1, Hv.out.2]; rfl, blw hb1 hb2⟩
  · rw [ha, Bool.true_and] at hvb
    by_cases hq : appS (verT s) = s
    · rw [decide_eq_true hq] at hvb
      have Hv := Lib.hid (show verB s = true ∧ verS s = verT s from ⟨hvb, by rw [verS, hvb]; rfl⟩)
      have q1 : ((appS (verT s)).toList == s.toList) = true := by rw [hq]; exact beq_self_eq_true _
      clear hvb hq
      go_enter Tryd.func27, Tryd.ntmps27
      go_wp2_with fail
      refine hC.mono ?_
      rintro e w1 ⟨rfl, n, rfl⟩
      have hb1 : Below w.heap.size w (w.drewN n) := below_drewN (Below.refl _ _) n
      go_wp2_with fail
      refine (c_impl_AppendChecksum (verT s) _ (by omega) (tab_below ht hb1) (ml_below hm0 hb1)).mono ?_
      rw [ha]
      rintro e w2 ⟨rfl, hb2⟩
      go_wp2_with fail
      go_ret2
      exact ⟨by rw [Hv.out.1, Hv.out.2]; rfl, blw hb1 hb2⟩
    · rw [decide_eq_false hq] at hvb
      have Hv := Lib.hid (show verB s = false ∧ verS s = ⟨#[]⟩ from ⟨hvb, by rw [verS, hvb]; rfl⟩)
      have q1 : ((appS (verT s)).toList == s.toList) = false := str_ne hq
      clear hvb hq
      go_enter Tryd.func27, Tryd.ntmps27
      go_wp2_with fail
      refine hC.mono ?_
      rintro e w1 ⟨rfl, n, rfl⟩
      have hb1 : Below w.heap.size w (w.drewN n) := below_drewN (Below.refl _ _) n
      go_wp2_with fail
      refine (c_impl_AppendChecksum (verT s) _ (by omega) (tab_below ht hb1) (ml_below hm0 hb1)).mono ?_
      rw [ha]
      rintro e w2 ⟨rfl, hb2⟩
      go_wp2_with fail
      go_ret2
      exact ⟨by rw [Hv.out.1, Hv.out.2]; rfl, blw hb1 hb2⟩

theorem Ls.str0 {w : World} {B : Nat} {A : Option Addr} {l : List ByteArray} (h : Ls w B encStr 1 A l) (hk : 0 < l.length) :
    ∃ b off, A = some ⟨b, off, none⟩ ∧ b < B ∧ w.cell? ⟨b, off, none⟩ = some (.string l[0]) := by
  obtain ⟨b, off, e, hb, hc⟩ := h hk
  exact ⟨b, off, e, hb, hc 0 hk 0 _ rfl⟩

set_option maxHeartbeats 1000000 in
theorem c_spec_VerifyChecksum (s : ByteArray) (w : World) (hs : s.size ≤ 9223372036854775807) :
    Calls Tryd.prog 26 #[.string s] w fun e w' => e = .returned (.tuple #[.string (verS s), .bool (verB s)]) ∧ Below w.heap.size w w' := by
  by_cases h1 : s.size ≤ 4000
  · have hts := verT_size s
    have hlen : 0 < (partsA 35 s).length := by unfold partsA; rw [List.length_map]; exact List.length_pos_iff.2 (partsL_ne _ _)
    have Hp := Lib.hid (verT_parts s)
    by_cases hq : sealB (verT s) = s
    · have Hv := Lib.hid (show verB s = true ∧ verS s = verT s by
        have h : verB s = true := by simp [verB, h1, hq]
        exact ⟨h, by rw [verS, h]; rfl⟩)
      have q1 : ((sealB (verT s)).toList == s.toList) = true := by rw [hq]; exact beq_self_eq_true _
      clear hq
      go_enter Tryd.func26, Tryd.ntmps26
      go_wp2_with fail
      refine (l1Split_any s 35 w (by omega)).mono ?_
      rintro e w1 ⟨A, c, rfl, hv, hb1⟩
      obtain ⟨b, off, rfl, hbb, hc0⟩ := (hv.ls encStr_len).str0 hlen
      rw [Hp.out] at hc0
      go_wp2_with fail
      refine (l1Seal_any (verT s) _ (by omega)).mono ?_
      rintro e w2 ⟨rfl, hb2⟩
      go_wp2_with fail
      go_ret2
      exact ⟨by rw [Hv.out.1, Hv.out.2]; rfl, blw hb1 hb2⟩
    · have Hv := Lib.hid (show verB s = false ∧ verS s = ⟨#[]⟩ by
        have h : verB s = false := by simp [verB, hq]
        exact ⟨h, by rw [verS, h]; rfl⟩)
      have q1 : ((sealB (verT s)).toList == s.toList) = false := str_ne hq
      clear hq
      go_enter Tryd.func26, Tryd.ntmps26
      go_wp2_with fail
      refine (l1Split_any s 35 w (by omega)).mono ?_
      rintro e w1 ⟨A, c, rfl, hv, hb1⟩
      obtain ⟨b, off, rfl, hbb, hc0⟩ := (hv.ls encStr_len).str0 hlen
      rw [Hp.out] at hc0
      go_wp2_with fail
      refine (l1Seal_any (verT s) _ (by omega)).mono ?_
      rintro e w2 ⟨rfl, hb2⟩
      go_wp2_with fail
      go_ret2
      exact ⟨by rw [Hv.out.1, Hv.out.2]; rfl, blw hb1 hb2⟩
  · have Hv := Lib.hid (show verB s = false ∧ verS s = ⟨#[]⟩ by
      have h : verB s = false := by simp [verB, h1]
      exact ⟨h, by rw [verS, h]; rfl⟩)
    have h4 : 4000 < s.size := by omega
    go_enter Tryd.func26, Tryd.ntmps26
    go_wp2_with fail
    go_ret2
    exact ⟨by rw [Hv.out.1, Hv.out.2]; rfl, Below.refl _ _⟩

end Go.Proofs.YtebomppjcaahpaaDoor
