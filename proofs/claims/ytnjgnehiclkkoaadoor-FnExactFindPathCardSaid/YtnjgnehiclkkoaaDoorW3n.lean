/- Contracts: NamedPath, FindPath. -/
import Derived.Test.YtnjgnehiclkkoaaDoorW3p
import Derived.Test.YtnjgnehiclkkoaaDoorD3s
import Derived.Test.YtnjgnehiclkkoaaDoorHInt
import Derived.Test.YtnjgnehiclkkoaaDoorHStr
import Derived.Test.YtnjgnehiclkkoaaDoorVs
import Derived.Test.YtnjgnehiclkkoaaDoorSJ
namespace Go.Proofs.YtnjgnehiclkkoaaDoor
set_option linter.unusedVariables false
set_option linter.unusedSimpArgs false
open Go.RowKit Go.Shelf
attribute [local go_sem] Aft.cell

theorem Tryd.Builder_Extra_156 : Builder.Extra Tryd.prog Tryd.lays156_ren where
  sizeBuilder := by kernel_rfl
  liesBuilder := by kernel_rfl
  t5 := Tryd.underlying5
  a5 := Tryd.isAgg5
  z5 := Tryd.sizeOf5
  v5 := Tryd.zeroValue5
  infoByte := by kernel_rfl
  cellsByte := by kernel_rfl
  sizeByte := by kernel_rfl
  neB5 := by decide

/-- the first k names; what they join to -/
def nmK (l : List FnD) (id : Int) (k : Nat) : List ByteArray := (namesF l id).take k
theorem nmK_zero (l : List FnD) (id : Int) : nmK l id 0 = [] := by simp [nmK]
theorem nmK_end (l : List FnD) (id : Int) : nmK l id (pathF l id).length = namesF l id := by rw [← namesF_len]; simp [nmK]
theorem nmK_len {l : List FnD} {id : Int} {k : Nat} (h : k ≤ (pathF l id).length) : (nmK l id k).length = k := by unfold nmK; rw [List.length_take, namesF_len]; omega
theorem nmK_succ {l : List FnD} {id : Int} {k : Nat} (h : k < (pathF l id).length) : nmK l id (k + 1) = nmK l id k ++ [nameF l (pathF l id)[k]] := by
  unfold nmK
  rw [List.take_succ_eq_append_getElem (by rw [namesF_len]; exact h)]
  simp [namesF]
def jnK (l : List FnD) (id : Int) (k : Nat) : ByteArray := joinV (nmK l id k) slashB
theorem jnK_zero (l : List FnD) (id : Int) : jnK l id 0 = ⟨#[]⟩ := by unfold jnK; rw [nmK_zero]; rfl
theorem jnK_end (l : List FnD) (id : Int) : jnK l id (pathF l id).length = namedF l id := by unfold jnK namedF; rw [nmK_end]
theorem jnK_size {l : List FnD} (ht : treeB l = true) {id : Int} (h : hasF l id = true) {k : Nat} (hk : k ≤ (pathF l id).length) : (jnK l id k).size ≤ 1100 := namedF_size ht h k (by rw [namesF_len]; exact hk)
theorem jnK_one {l : List FnD} {id : Int} (h : 0 < (pathF l id).length) : jnK l id (0 + 1) = ⟨#[]⟩ ++ nameF l (pathF l id)[0] := by
  unfold jnK nmK
  rw [joinV_zero _ _ (by rw [namesF_len]; exact h)]
  refine ba_extJ ?_
  rw [ByteArray.data_append]
  simp [namesF]
theorem jnK_succ {l : List FnD} {id : Int} {k : Nat} (h0 : 0 < k) (h : k < (pathF l id).length) : jnK l id (k + 1) = jnK l id k ++ slashB ++ nameF l (pathF l id)[k] := by
  unfold jnK nmK
  rw [joinV_succ _ _ k h0 (by rw [namesF_len]; exact h)]
  simp [namesF]
theorem pathF_pos {l : List FnD} (ht : treeB l = true) {id : Int} (h : hasF l id = true) : 0 < (pathF l id).length := by
  have h1 := tree_par ht h
  unfold pathF
  rw [upW_step (by omega) (by omega)]
  simp

set_option maxHeartbeats 4000000 in
theorem namedPath_any (A : Option Addr) (c : Nat) (l : List FnD) (id : Int) (w : World) (hl : Ls w w.heap.size encFn 3 A l) (hm : l.length ≤ 1048576) (htree : treeB l = true) (hhas : hasF l id = true) :
    Calls Tryd.prog 44 #[.slice A l.length c, .int .i64 id] w fun e w' => e = .returned (.string (namedF l id)) ∧ Below w.heap.size w w' := by
  have hlm : l.length ≤ 9223372036854775807 := by omega
  have hlen : (l.length : Int) ≤ 1048576 := by omega
  have hp99 := pathF_len htree hhas
  have hpos := pathF_pos htree hhas
  have Htree := Lib.hid htree
  have Hhas := Lib.hid hhas
  have Hall := Lib.hid (pathF_has htree hhas)
  clear htree hhas
  go_enter Tryd.func44, Tryd.ntmps44
  go_wp2_with fail
  refine (pathTo_any _ _ l id _ hl hm Htree.out Hhas.out).mono ?_
  rintro e w1 ⟨A1, c1, rfl, hp1, hb1⟩
  have hlp := hp1.ls encInt_len
  have hz1 := hb1.size
  go_wp2_with fail
  go_loopw [5, 12] (fun v i wr => ∃ (k : Nat) (A' : Option Addr) (c' : Nat), k ≤ (pathF l id).length ∧ i = .int .i64 k ∧ v = .slice A' (nmK l id k).length c' ∧ Vec wr w1.heap.size 9 encStr 1 (.slice A' (nmK l id k).length c') (nmK l id k) ∧ Below w1.heap.size w1 wr) (fun _ i _ => (pathF l id).length - (intOf i).toNat)
  case atStart => exact ⟨0, none, 0, Nat.zero_le _, rfl, by rw [nmK_zero]; rfl, by rw [nmK_zero]; exact Vec.nil, Below.refl _ _⟩
  case round =>
    obtain ⟨k, A', c', hk, rfl, rfl, hv, hb⟩ := hrel
    have hB := hb1.trans (hb.mono hz1)
    have hkl := nmK_len hk
    have hsz := hb.size
    by_cases hlt : k < (pathF l id).length
    · obtain ⟨pb, poff, rfl, hpbb, hpc⟩ := (hlp.below hb).at_Int hlt
      have hh := Hall.out _ (List.getElem_mem hlt)
      have hi := hasF_lt hh
      have Hz := Lib.hid (show idxFI l (pathF l id)[k] = (idxF l (pathF l id)[k] : Int) by unfold idxFI; rw [hh]; rfl)
      have Hnm := Lib.hid (show (l[idxF l (pathF l id)[k]]'hi).name = nameF l (pathF l id)[k] from nameF_eq hh)
      have hi2 : (idxF l (pathF l id)[k] : Int) < (l.length : Int) := by omega
      have Hs := Lib.hid (nmK_succ hlt)
      have hF1 : (nmK l id k).length + [nameF l (pathF l id)[k]].length ≤ maxLen := by unfold maxLen; simp; omega
      have hF2 : ((nmK l id k).length + [nameF l (pathF l id)[k]].length) * 16 ≤ 140737488355328 := by simp; omega
      clear hh hkl
      go_wp2_with fail
      refine (functionAt_any _ _ l _ _ ((hl.below hB).more hB.size) hlm).mono ?_
      rw [Hz.out]
      rintro e w2 ⟨rfl, hb2⟩
      have hB2 := blw hB hb2
      obtain ⟨b, off, rfl, hbb, hc0, hc1, hc2⟩ := (hl.below hB2).at_Function hi
      rw [Hnm.out] at hc2
      have hv2 := hv.on hb2
      have hz2 := hb2.size
      go_wp2_with (at_builtin; refine wpList_app rfl (.tmp 16) (.tmp 24) 63 rfl 9 (.string ⟨#[]⟩) 1 16 Tryd.underlying63 (by kernel_rfl) rfl (by omega) encStr_len one_str A' c' (nmK l id k) rfl (hv2.alloc _) (some ⟨w2.heap.size, 0, none⟩) 1 (w2.heap.size + 1) [nameF l (pathF l id)[k]] rfl (Ls.one_at rfl rfl) hF1 hF2 (by simp <;> omega) ?_; intro A3 c3 w3 hv3 hw3)
      go_roundw
      case rel =>
        refine ⟨k + 1, A3, c3, by omega, by go_num, by rw [Hs.out]; simp, by rw [Hs.out]; exact hv3, ?_⟩
        exact (blw_alloc (blw hb hb2) _).trans (hw3.below (by simp; omega) (fun q hq => by have := (hv2.block hq).1; omega))
      case measure => simp [intOf]; omega
    · have hkk : k = (pathF l id).length := by omega
      subst hkk
      rw [nmK_end] at hv hkl
      have He := Lib.hid (nmK_end l id)
      obtain ⟨g, rfl⟩ := hv.some (by omega)
      have hcap := hv.capOk
      have hgl := (hv.block ⟨0, rfl⟩).2
      have hL := hv.ls encStr_len
      have hjs := namedF_size Htree.out Hhas.out (namesF l id).length (Nat.le_refl _)
      rw [List.take_length] at hjs
      have hJ : (Lib.join ((namesF l id).map (·.data.toList)) slashB.data.toList).length ≤ 140737488355328 := by
        have : (Lib.join ((namesF l id).map (·.data.toList)) slashB.data.toList).length = (joinV (namesF l id) slashB).size := by simp [joinV, ByteArray.size]
        omega
      have hj := Any.strings_Join Tryd.lays156 Tryd.Builder_Extra_156 g 0 c' (namesF l id) slashB wr (fun j x hx => by
        obtain ⟨hj, e⟩ := List.getElem?_eq_some_iff.1 hx
        obtain ⟨b', off', he, _, h2⟩ := hL.at_String hj
        cases he
        rw [h2, e]) hgl (by omega) hcap hJ
      have Hj := Lib.hid hj
      clear hJ hjs hj
      go_wp2_with fail
      rw [He.out]
      refine Hj.out.mono ?_
      rintro e w2 ⟨rfl, hb2⟩
      go_wp2_with fail
      go_ret
      exact ⟨rfl, blw hB hb2⟩

set_option maxHeartbeats 4000000 in
theorem l3Named_any (A : Option Addr) (c : Nat) (l : List FnD) (id : Int) (w : World) (hl : Ls w w.heap.size encFn 3 A l) (hm : l.length ≤ 1048576) (htree : treeB l = true) (hhas : hasF l id = true) :
    Calls Tryd.prog 43 #[.slice A l.length c, .int .i64 id] w fun e w' => e = .returned (.string (namedF l id)) ∧ Below w.heap.size w w' := by
  have hlm : l.length ≤ 9223372036854775807 := by omega
  have hlen : (l.length : Int) ≤ 1048576 := by omega
  have hp99 := pathF_len htree hhas
  have Htree := Lib.hid htree
  have Hhas := Lib.hid hhas
  have Hall := Lib.hid (pathF_has htree hhas)
  clear htree hhas
  go_enter Tryd.func43, Tryd.ntmps43
  go_wp2_with fail
  refine (l3Path_any _ _ l id _ hl hm Htree.out Hhas.out).mono ?_
  rintro e w1 ⟨A1, c1, rfl, hp1, hb1⟩
  have hlp := hp1.ls encInt_len
  have hz1 := hb1.size
  go_wp2_with fail
  go_loopw [5, 7] (fun v i wr => ∃ (k : Nat), k ≤ (pathF l id).length ∧ i = .int .i64 k ∧ v = .string (jnK l id k) ∧ Below w1.heap.size w1 wr) (fun _ i _ => (pathF l id).length - (intOf i).toNat)
  case atStart => exact ⟨0, Nat.zero_le _, rfl, by rw [jnK_zero], Below.refl _ _⟩
  case round =>
    obtain ⟨k, hk, rfl, rfl, hb⟩ := hrel
    have hB := hb1.trans (hb.mono hz1)
    have hsz := hb.size
    by_cases hlt : k < (pathF l id).length
    · obtain ⟨pb, poff, rfl, hpbb, hpc⟩ := (hlp.below hb).at_Int hlt
      have hh := Hall.out _ (List.getElem_mem hlt)
      have hi := hasF_lt hh
      have hjs := jnK_size Htree.out Hhas.out hk
      have hnsz := tree_name Htree.out hh
      have Hz := Lib.hid (show idxFI l (pathF l id)[k] = (idxF l (pathF l id)[k] : Int) by unfold idxFI; rw [hh]; rfl)
      have Hnm := Lib.hid (show (l[idxF l (pathF l id)[k]]'hi).name = nameF l (pathF l id)[k] from nameF_eq hh)
      have hi2 : (idxF l (pathF l id)[k] : Int) < (l.length : Int) := by omega
      clear hh
      have hsl : slashB.size = 1 := rfl
      by_cases hk0 : k = 0
      · subst hk0
        rw [Nat.add_zero] at hpc
        have Hs := Lib.hid (jnK_one hlt)
        have Hj0 := Lib.hid (jnK_zero l id)
        rw [Hj0.out]
        have hq : (⟨#[]⟩ : ByteArray).size + (nameF l (pathF l id)[0]).size ≤ 9223372036854775807 := by
          show 0 + _ ≤ _
          omega
        go_wp2_with fail
        refine (l3Find_any _ _ l _ _ ((hl.below hB).more hB.size) hlm).mono ?_
        rw [Hz.out]
        rintro e w2 ⟨rfl, hb2⟩
        have hB2 := blw hB hb2
        obtain ⟨b, off, rfl, hbb, hc0, hc1, hc2⟩ := (hl.below hB2).at_Function hi
        rw [Hnm.out] at hc2
        go_wp2_with fail
        go_roundw
        case rel => exact ⟨1, by omega, by go_num, by rw [Hs.out], blw hb hb2⟩
        case measure => simp [intOf]; omega
      · have hk1 : 0 < k := by omega
        have hk2 : (0 : Int) < (k : Int) := by omega
        have Hs := Lib.hid (jnK_succ hk1 hlt)
        have hq : (jnK l id k).size + slashB.size ≤ 9223372036854775807 := by omega
        have hq2 : (jnK l id k).size + slashB.size + (nameF l (pathF l id)[k]).size ≤ 9223372036854775807 := by omega
        go_wp2_with fail
        refine (l3Find_any _ _ l _ _ ((hl.below hB).more hB.size) hlm).mono ?_
        rw [Hz.out]
        rintro e w2 ⟨rfl, hb2⟩
        have hB2 := blw hB hb2
        obtain ⟨b, off, rfl, hbb, hc0, hc1, hc2⟩ := (hl.below hB2).at_Function hi
        rw [Hnm.out] at hc2
        go_wp2_with fail
        go_roundw
        case rel => exact ⟨k + 1, by omega, by go_num, by rw [Hs.out]; rfl, blw hb hb2⟩
        case measure => simp [intOf]; omega
    · have hkk : k = (pathF l id).length := by omega
      subst hkk
      have He := Lib.hid (jnK_end l id)
      rw [He.out]
      go_wp2_with fail
      go_ret
      exact ⟨rfl, hB⟩

set_option maxHeartbeats 1000000 in
theorem c_impl_NamedPath (A : Option Addr) (c : Nat) (l : List FnD) (id : Int) (w : World) (hl : Ls w w.heap.size encFn 3 A l) (hm : l.length ≤ 1048576) (hnm : ∀ f ∈ l, f.name.size ≤ 1048576) (hcap : l.length ≤ c) :
    Calls Tryd.prog 26 #[.slice A l.length c, .int .i64 id] w fun e w' => e = .returned (.tuple #[.string (nmpV l id), .bool (nmpB l id)]) ∧ Below w.heap.size w w' := by
  have hlm : l.length ≤ 9223372036854775807 := by omega
  have hG := IsTree_any A c l w hl hm hnm hcap
  clear hnm
  cases h1 : treeB l
  · rw [h1] at hG
    have Hv := Lib.hid (show nmpB l id = false ∧ nmpV l id = ⟨#[]⟩ by simp [nmpV, nmpB, h1])
    clear h1
    go_enter Tryd.func26, Tryd.ntmps26
    go_wp2_with fail
    refine hG.mono ?_
    rintro e w1 ⟨rfl, hb1⟩
    go_wp2_with fail
    go_ret2
    exact ⟨by rw [Hv.out.1, Hv.out.2]; rfl, hb1⟩
  · rw [h1] at hG
    cases h2 : hasF l id
    · have Hv := Lib.hid (show nmpB l id = false ∧ nmpV l id = ⟨#[]⟩ by simp [nmpV, nmpB, h2])
      have Hz := Lib.hid (show idxFI l id = -1 by unfold idxFI; rw [h2]; rfl)
      clear h1 h2
      go_enter Tryd.func26, Tryd.ntmps26
      go_wp2_with fail
      refine hG.mono ?_
      rintro e w1 ⟨rfl, hb1⟩
      go_wp2_with fail
      refine (functionAt_any _ _ l id _ ((hl.below hb1).more hb1.size) hlm).mono ?_
      rw [Hz.out]
      rintro e w2 ⟨rfl, hb2⟩
      go_wp2_with fail
      go_ret2
      exact ⟨by rw [Hv.out.1, Hv.out.2]; rfl, blw hb1 hb2⟩
    · have Hv := Lib.hid (show nmpB l id = true ∧ nmpV l id = namedF l id by simp [nmpV, nmpB, h1, h2])
      have Hz := Lib.hid (show idxFI l id = (idxF l id : Int) by unfold idxFI; rw [h2]; rfl)
      have H1 := Lib.hid h1
      have H2 := Lib.hid h2
      clear h1 h2
      go_enter Tryd.func26, Tryd.ntmps26
      go_wp2_with fail
      refine hG.mono ?_
      rintro e w1 ⟨rfl, hb1⟩
      go_wp2_with fail
      refine (functionAt_any _ _ l id _ ((hl.below hb1).more hb1.size) hlm).mono ?_
      rw [Hz.out]
      rintro e w2 ⟨rfl, hb2⟩
      have hB2 := blw hb1 hb2
      go_wp2_with fail
      refine (namedPath_any _ _ l id _ ((hl.below hB2).more hB2.size) hm H1.out H2.out).mono ?_
      rintro e w3 ⟨rfl, hb3⟩
      go_wp2_with fail
      go_ret2
      exact ⟨by rw [Hv.out.1, Hv.out.2]; rfl, blw hB2 hb3⟩

theorem fp_le {l : List FnD} {j : Nat} (hj : j < l.length) : hasF l l[j].id = true := hasF_get hj

set_option maxHeartbeats 2000000 in
theorem c_impl_FindPath (A : Option Addr) (c : Nat) (l : List FnD) (p : ByteArray) (w : World) (hl : Ls w w.heap.size encFn 3 A l) (hm : l.length ≤ 1048576) (hnm : ∀ f ∈ l, f.name.size ≤ 1048576) (hcap : l.length ≤ c) (hs : p.size ≤ 1048576) :
    Calls Tryd.prog 28 #[.slice A l.length c, .string p] w fun e w' => e = .returned (.tuple #[.int .i64 (fpV l p), .bool (fpB l p)]) ∧ Below w.heap.size w w' := by
  have hlm : l.length ≤ 9223372036854775807 := by omega
  have hlen : (l.length : Int) ≤ 1048576 := by omega
  have hG := IsTree_any A c l w hl hm hnm hcap
  clear hnm
  cases h1 : treeB l
  · rw [h1] at hG
    have Hv := Lib.hid (fp_none (p := p) (.inl h1))
    clear h1
    go_enter Tryd.func28, Tryd.ntmps28
    go_wp2_with fail
    refine hG.mono ?_
    rintro e w1 ⟨rfl, hb1⟩
    go_wp2_with fail
    go_ret2
    exact ⟨by rw [Hv.out.1, Hv.out.2]; rfl, hb1⟩
  · rw [h1] at hG
    have H1 := Lib.hid h1
    clear h1
    go_enter Tryd.func28, Tryd.ntmps28
    go_wp2_with fail
    refine hG.mono ?_
    rintro e w1 ⟨rfl, hb1⟩
    clear hG
    go_wp2_with fail
    go_loopw [13] (fun i wr => ∃ k : Nat, k ≤ l.length ∧ i = .int .i64 k ∧ Below w.heap.size w wr ∧ Hid (∀ j (hj : j < l.length), j < k → ((namedF l l[j].id).toList == p.toList) = false)) (fun i _ => l.length - (intOf i).toNat)
    case atStart => exact ⟨0, Nat.zero_le _, rfl, hb1, fun j _ hj => absurd hj (Nat.not_lt_zero _)⟩
    case round =>
      obtain ⟨k, hk, rfl, hb, hall⟩ := hrel
      by_cases hlt : k < l.length
      · obtain ⟨b, off, rfl, hbb, hc0, hc1, hc2⟩ := (hl.below hb).at_Function hlt
        have hsz := hb.size
        have hbx0 := FnBox.new wr l[k] 49
        have hBx := blw_alloc hb (.cells #[.int .i64 l[k].id, .int .i64 l[k].parent, .string l[k].name] 49)
        cases he : (namedF l l[k].id).toList == p.toList
        · have He := Lib.hid (show ∀ j (hj : j < l.length), j < k + 1 → ((namedF l l[j].id).toList == p.toList) = false from fun j hj hjk => by rcases Nat.lt_succ_iff_lt_or_eq.1 hjk with h | rfl; exact hall.out j hj h; exact he)
          go_wp2_with fail
          refine (namedPath_any _ _ l l[k].id _ ((hl.below hBx).more hBx.size) hm H1.out (hasF_get hlt)).mono ?_
          rintro e w2 ⟨rfl, hb2⟩
          go_wp2_with fail
          go_roundw
          case rel => exact ⟨k + 1, by omega, by go_num, blw hBx hb2, He.out⟩
          case measure => simp [intOf]; omega
        · have Hv := Lib.hid (fp_at H1.out hlt he hall.out)
          go_wp2_with fail
          refine (namedPath_any _ _ l l[k].id _ ((hl.below hBx).more hBx.size) hm H1.out (hasF_get hlt)).mono ?_
          rintro e w2 ⟨rfl, hb2⟩
          obtain ⟨x0, x1, x2, xl⟩ := hbx0.below hb2
          go_wp2_with fail
          go_ret2
          exact ⟨by rw [Hv.out.1, Hv.out.2]; rfl, blw hBx hb2⟩
      · have hkk : k = l.length := by omega
        subst hkk
        have Hv := Lib.hid (fp_none (.inr hall.out))
        go_wp2_with fail
        go_ret2
        exact ⟨by rw [Hv.out.1, Hv.out.2]; rfl, hb⟩

set_option maxHeartbeats 2000000 in
theorem c_spec_FindPath (A : Option Addr) (c : Nat) (l : List FnD) (p : ByteArray) (w : World) (hl : Ls w w.heap.size encFn 3 A l) (hm : l.length ≤ 1048576) (hnm : ∀ f ∈ l, f.name.size ≤ 1048576) (hcap : l.length ≤ c) (hs : p.size ≤ 1048576) :
    Calls Tryd.prog 27 #[.slice A l.length c, .string p] w fun e w' => e = .returned (.tuple #[.int .i64 (fpV l p), .bool (fpB l p)]) ∧ Below w.heap.size w w' := by
  have hlm : l.length ≤ 9223372036854775807 := by omega
  have hlen : (l.length : Int) ≤ 1048576 := by omega
  have Hnm := Lib.hid hnm
  clear hnm
  go_enter Tryd.func27, Tryd.ntmps27
  go_wp2_with fail
  go_loopw [6] (fun i wr => ∃ k : Nat, k ≤ l.length ∧ i = .int .i64 k ∧ Below w.heap.size w wr ∧ Hid (∀ j (hj : j < l.length), j < k → ((namedF l l[j].id).toList == p.toList) = false)) (fun i _ => l.length - (intOf i).toNat)
  case atStart => exact ⟨0, Nat.zero_le _, rfl, Below.refl _ _, fun j _ hj => absurd hj (Nat.not_lt_zero _)⟩
  case round =>
    obtain ⟨k, hk, rfl, hb, hall⟩ := hrel
    by_cases hlt : k < l.length
    · have hG := l3Good_any A c l wr ((hl.below hb).more hb.size) hm Hnm.out hcap
      cases h1 : treeB l
      · rw [h1] at hG
        have Hv := Lib.hid (fp_none (p := p) (.inl h1))
        clear h1
        go_wp2_with fail
        refine hG.mono ?_
        rintro e w1 ⟨rfl, hb1⟩
        go_wp2_with fail
        go_ret2
        exact ⟨by rw [Hv.out.1, Hv.out.2]; rfl, blw hb hb1⟩
      · rw [h1] at hG
        have H1 := Lib.hid h1
        clear h1
        cases he : (namedF l l[k].id).toList == p.toList
        · have He := Lib.hid (show ∀ j (hj : j < l.length), j < k + 1 → ((namedF l l[j].id).toList == p.toList) = false from fun j hj hjk => by rcases Nat.lt_succ_iff_lt_or_eq.1 hjk with h | rfl; exact hall.out j hj h; exact he)
          go_wp2_with fail
          refine hG.mono ?_
          rintro e w1 ⟨rfl, hb1⟩
          have hB1 := blw hb hb1
          obtain ⟨b, off, rfl, hbb, hc0, hc1, hc2⟩ := (hl.below hB1).at_Function hlt
          clear hG
          go_wp2_with fail
          refine (l3Named_any _ _ l l[k].id _ ((hl.below hB1).more hB1.size) hm H1.out (hasF_get hlt)).mono ?_
          rintro e w2 ⟨rfl, hb2⟩
          go_wp2_with fail
          go_roundw
          case rel => exact ⟨k + 1, by omega, by go_num, blw hB1 hb2, He.out⟩
          case measure => simp [intOf]; omega
        · have Hv := Lib.hid (fp_at H1.out hlt he hall.out)
          go_wp2_with fail
          refine hG.mono ?_
          rintro e w1 ⟨rfl, hb1⟩
          have hB1 := blw hb hb1
          obtain ⟨b, off, rfl, hbb, hc0, hc1, hc2⟩ := (hl.below hB1).at_Function hlt
          clear hG
          go_wp2_with fail
          refine (l3Named_any _ _ l l[k].id _ ((hl.below hB1).more hB1.size) hm H1.out (hasF_get hlt)).mono ?_
          rintro e w2 ⟨rfl, hb2⟩
          have hq1 : b < w1.heap.size := by have := hB1.size; omega
          replace hc0 : w2.cell? ⟨b, off + k * 3, none⟩ = some (.int .i64 l[k].id) := (hb2.cell (p := ⟨b, off + k * 3, none⟩) hq1).trans hc0
          go_wp2_with fail
          go_ret2
          exact ⟨by rw [Hv.out.1, Hv.out.2]; rfl, blw hB1 hb2⟩
    · have hkk : k = l.length := by omega
      subst hkk
      have Hv := Lib.hid (fp_none (.inr hall.out))
      go_wp2_with fail
      go_ret2
      exact ⟨by rw [Hv.out.1, Hv.out.2]; rfl, hb⟩

set_option maxHeartbeats 1000000 in
theorem c_spec_NamedPath (A : Option Addr) (c : Nat) (l : List FnD) (id : Int) (w : World) (hl : Ls w w.heap.size encFn 3 A l) (hm : l.length ≤ 1048576) (hnm : ∀ f ∈ l, f.name.size ≤ 1048576) (hcap : l.length ≤ c) :
    Calls Tryd.prog 25 #[.slice A l.length c, .int .i64 id] w fun e w' => e = .returned (.tuple #[.string (nmpV l id), .bool (nmpB l id)]) ∧ Below w.heap.size w w' := by
  have hlm : l.length ≤ 9223372036854775807 := by omega
  have hG := l3Good_any A c l w hl hm hnm hcap
  clear hnm
  cases h1 : treeB l
  · rw [h1] at hG
    have Hv := Lib.hid (show nmpB l id = false ∧ nmpV l id = ⟨#[]⟩ by simp [nmpV, nmpB, h1])
    clear h1
    go_enter Tryd.func25, Tryd.ntmps25
    go_wp2_with fail
    refine hG.mono ?_
    rintro e w1 ⟨rfl, hb1⟩
    go_wp2_with fail
    go_ret2
    exact ⟨by rw [Hv.out.1, Hv.out.2]; rfl, hb1⟩
  · rw [h1] at hG
    cases h2 : hasF l id
    · have Hv := Lib.hid (show nmpB l id = false ∧ nmpV l id = ⟨#[]⟩ by simp [nmpV, nmpB, h2])
      have Hz := Lib.hid (show idxFI l id = -1 by unfold idxFI; rw [h2]; rfl)
      clear h1 h2
      go_enter Tryd.func25, Tryd.ntmps25
      go_wp2_with fail
      refine hG.mono ?_
      rintro e w1 ⟨rfl, hb1⟩
      go_wp2_with fail
      refine (l3Find_any _ _ l id _ ((hl.below hb1).more hb1.size) hlm).mono ?_
      rw [Hz.out]
      rintro e w2 ⟨rfl, hb2⟩
      go_wp2_with fail
      go_ret2
      exact ⟨by rw [Hv.out.1, Hv.out.2]; rfl, blw hb1 hb2⟩
    · have Hv := Lib.hid (show nmpB l id = true ∧ nmpV l id = namedF l id by simp [nmpV, nmpB, h1, h2])
      have Hz := Lib.hid (show idxFI l id = (idxF l id : Int) by unfold idxFI; rw [h2]; rfl)
      have H1 := Lib.hid h1
      have H2 := Lib.hid h2
      clear h1 h2
      go_enter Tryd.func25, Tryd.ntmps25
      go_wp2_with fail
      refine hG.mono ?_
      rintro e w1 ⟨rfl, hb1⟩
      go_wp2_with fail
      refine (l3Find_any _ _ l id _ ((hl.below hb1).more hb1.size) hlm).mono ?_
      rw [Hz.out]
      rintro e w2 ⟨rfl, hb2⟩
      have hB2 := blw hb1 hb2
      go_wp2_with fail
      refine (l3Named_any _ _ l id _ ((hl.below hB2).more hB2.size) hm H1.out H2.out).mono ?_
      rintro e w3 ⟨rfl, hb3⟩
      go_wp2_with fail
      go_ret2
      exact ⟨by rw [Hv.out.1, Hv.out.2]; rfl, blw hB2 hb3⟩

end Go.Proofs.YtnjgnehiclkkoaaDoor
