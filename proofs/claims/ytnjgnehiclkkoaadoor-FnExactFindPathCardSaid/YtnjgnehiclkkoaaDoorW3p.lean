/- Contracts: the path of a function. -/
import Derived.Test.YtnjgnehiclkkoaaDoorW3d
import Derived.Test.YtnjgnehiclkkoaaDoorV
import Derived.Test.YtnjgnehiclkkoaaDoorSC
import Derived.Sort.OwnSortedInts
namespace Go.Proofs.YtnjgnehiclkkoaaDoor
set_option linter.unusedVariables false
set_option linter.unusedSimpArgs false
open Go.RowKit Go.Shelf
attribute [local go_sem] Aft.cell

theorem flat_int (l : List Int) : l.flatMap encInt = l.map (Value.int .i64) := by
  induction l with
  | nil => rfl
  | cons a l ih => rw [List.flatMap_cons, ih]; rfl

/-- What Reverse leaves. -/
def RevS (w : World) (base g c : Nat) (t : TypeId) (l : List Int) (e : Ending) (w' : World) : Prop :=
  e = .returned (.tuple #[]) ∧ Vec w' base t encInt 1 (.slice (some ⟨g, 0, none⟩) l.length c) l.reverse ∧ Wr (blkOf (some ⟨g, 0, none⟩)) w w'
theorem Reverse_vec (g c base : Nat) (l : List Int) (w : World) (hv : Vec w base 3 encInt 1 (.slice (some ⟨g, 0, none⟩) l.length c) l) (hm : l.length ≤ 1048576) :
    Calls Tryd.prog 50 #[.slice (some ⟨g, 0, none⟩) l.length c] w (RevS w base g c 3 l) := by
  rcases hv.2 with ⟨h1, _⟩ | ⟨g', cap', cur, h1, h2, h3, h4, h5, h6, h7⟩
  · simp at h1
  · simp at h1
    obtain ⟨rfl, rfl⟩ := h1
    rw [flat_int, Nat.mul_one] at h7
    have hH := Go.holds_of_blockI h3 h7
    refine (Any.slices_Reverse_int Tryd.lays112 g 0 c l w hH (by omega)).mono fun e w' h => ?_
    obtain ⟨rfl, n, rfl⟩ := h
    have ho := Go.ownsRow_sortedI (n := n) (os := #[]) (ts := l.reverse) (by simp) h2 h3 h4 h5 h6
    rw [Go.Sort.grow_empty] at ho
    have hg := Go.grownBy_sortedI (w := w) (g := g) (n := n) (os := #[]) l.reverse.toArray
    rw [Go.Sort.grow_empty] at hg
    refine ⟨rfl, ?_, ?_⟩
    · unfold Vec
      rw [flat_int, List.length_reverse]
      exact ho
    · exact ⟨hg.os, hg.tape, hg.output, hg.size, fun k hk hn => hg.block k hk (fun e => by
        simp at e
        subst e
        exact hn ⟨0, rfl⟩)⟩

theorem Vec.one_int {w : World} {t : TypeId} (x : Int) : Vec (w.alloc (.cells #[.int .i64 x] t)) w.heap.size t encInt 1 (.slice (some ⟨w.heap.size, 0, none⟩) 1 1) [x] :=
  ⟨by simp [encInt], .inr ⟨w.heap.size, 1, #[.int .i64 x], rfl, Nat.le_refl _, heap_alloc_new w _, Nat.le_refl _, by unfold maxLen; omega, by simp, by simp [encInt]⟩⟩

set_option maxHeartbeats 2000000 in
theorem pathTo_any (A : Option Addr) (c : Nat) (l : List FnD) (id : Int) (w : World) (hl : Ls w w.heap.size encFn 3 A l) (hm : l.length ≤ 1048576) (htree : treeB l = true) (hhas : hasF l id = true) :
    Calls Tryd.prog 42 #[.slice A l.length c, .int .i64 id] w (RetS w 3 encInt 1 (pathF l id)) := by
  have hlen : (l.length : Int) ≤ 1048576 := by omega
  have hlm : l.length ≤ 9223372036854775807 := by omega
  obtain ⟨t1, t2, t3, t4, t5⟩ := tree_par htree hhas
  have hlen99 := upW_len l 99 id (by omega)
  have Htree := Lib.hid htree
  have Hhas := Lib.hid hhas
  clear htree hhas t5 t3 t4
  go_enter Tryd.func42, Tryd.ntmps42
  go_wp2_with fail
  go_loopw [1, 5] (fun z v wr => ∃ (cur : Int) (out : List Int) (A' : Option Addr) (c' : Nat), z = .int .i64 cur ∧ v = .slice A' out.length c' ∧ 0 ≤ cur ∧ cur ≤ 99 ∧ Vec wr w.heap.size 3 encInt 1 (.slice A' out.length c') out ∧ Below w.heap.size w wr ∧ Hid (upW l id = out ++ upW l cur ∧ (0 < cur → hasF l cur = true))) (fun z _ _ => (intOf z).toNat)
  case atStart => exact ⟨id, [], none, 0, rfl, rfl, by omega, t2, Vec.nil, Below.refl _ _, by simp, fun _ => Hhas.out⟩
  case round =>
    obtain ⟨cur, out, A', c', rfl, rfl, hc0, hc99, hv, hb, hh⟩ := hrel
    have hol : out.length ≤ 99 := by have h := congrArg List.length hh.out.1; rw [List.length_append] at h; omega
    by_cases hpos : 0 < cur
    · have hhc := hh.out.2 hpos
      obtain ⟨p1, p2, p3, p4, p5⟩ := tree_par Htree.out hhc
      have Hp5 := Lib.hid p5
      have hi := hasF_lt hhc
      have Hz := Lib.hid (show idxFI l cur = (idxF l cur : Int) by unfold idxFI; rw [hhc]; rfl)
      have Hpar := Lib.hid (show (l[idxF l cur]'hi).parent = parF l cur from parF_eq hhc)
      have HU := Lib.hid (upW_step hpos p4)
      clear p5 hhc
      have hsz := hb.size
      have hF1 : out.length + [cur].length ≤ maxLen := by unfold maxLen; simp; omega
      have hF2 : (out.length + [cur].length) * 8 ≤ 140737488355328 := by simp; omega
      go_wp2_with (at_builtin; refine wpList_app rfl (.tmp 8) (.tmp 10) 36 rfl 3 (.int .i64 0) 1 8 Tryd.underlying36 (by kernel_rfl) rfl (by omega) encInt_len one_int A' c' out rfl (hv.alloc _) (some ⟨wr.heap.size, 0, none⟩) 1 (wr.heap.size + 1) [cur] rfl (Ls.one_at rfl rfl) hF1 hF2 (by simp; omega) ?_; intro A2 c2 w1 hv1 hw1)
      have hB1 : Below w.heap.size w w1 := (blw_alloc hb _).trans (hw1.below (by simp; omega) (fun q hq => by have := (hv.block hq).1; omega))
      refine (functionAt_any _ _ l cur _ ((hl.below hB1).more hB1.size) hlm).mono ?_
      rw [Hz.out]
      rintro e w2 ⟨rfl, hb2⟩
      obtain ⟨b, off, rfl, hbb, hd0, hd1, hd2⟩ := (hl.below (blw hB1 hb2)).at_Function hi
      rw [Hpar.out] at hd1
      have hi2 : (idxF l cur : Int) < (l.length : Int) := by omega
      go_wp2_with fail
      go_roundw
      case rel =>
        refine ⟨parF l cur, out ++ [cur], A2, c2, rfl, by simp, p3, by omega, hv1.on hb2, blw hB1 hb2, ?_, Hp5.out⟩
        rw [hh.out.1, HU.out, List.append_assoc]; rfl
      case measure => simp [intOf]; omega
    · have hcz : cur ≤ 0 := by omega
      have Hout := Lib.hid (show upW l id = out by rw [hh.out.1, upW_end hcz, List.append_nil])
      have Hne := Lib.hid (show out ≠ [] by
        intro h
        have h1 := Hout.out
        rw [h] at h1
        have h2 := tree_par Htree.out Hhas.out
        rw [upW_step (by omega) h2.2.2.2.1] at h1
        simp at h1)
      have Hp := Lib.hid (show pathF l id = out.reverse by unfold pathF; rw [Hout.out])
      have hA : ∃ g, A' = some ⟨g, 0, none⟩ := by
        rcases hv.2 with ⟨_, h⟩ | ⟨g, cap, cur', h, _⟩
        · exact absurd (List.length_eq_zero_iff.1 h) Hne.out
        · simp at h; exact ⟨g, h.1⟩
      obtain ⟨g, rfl⟩ := hA
      have hg := (hv.block ⟨0, rfl⟩).1
      go_wp2_with fail
      refine (Reverse_vec g c' _ out _ hv (by omega)).mono ?_
      rintro e w1 ⟨rfl, hv1, hw1⟩
      go_wp2_with fail
      go_ret
      refine ⟨_, c', by rw [Hp.out, List.length_reverse]; rfl, by rw [Hp.out, List.length_reverse]; exact hv1, ?_⟩
      exact hb.trans (hw1.below hb.size (fun q hq => by obtain ⟨o, ho⟩ := hq; simp at ho; omega))

set_option maxHeartbeats 2000000 in
theorem l3Path_any (A : Option Addr) (c : Nat) (l : List FnD) (id : Int) (w : World) (hl : Ls w w.heap.size encFn 3 A l) (hm : l.length ≤ 1048576) (htree : treeB l = true) (hhas : hasF l id = true) :
    Calls Tryd.prog 41 #[.slice A l.length c, .int .i64 id] w (RetS w 3 encInt 1 (pathF l id)) := by
  have hlen : (l.length : Int) ≤ 1048576 := by omega
  have hlm : l.length ≤ 9223372036854775807 := by omega
  obtain ⟨t1, t2, t3, t4, t5⟩ := tree_par htree hhas
  have hlen99 := upW_len l 99 id (by omega)
  have Htree := Lib.hid htree
  have Hhas := Lib.hid hhas
  clear htree hhas t5 t3 t4
  have hmk : Vec (w.alloc (.cells #[] 3)) w.heap.size 3 encInt 1 (.slice (some ⟨w.heap.size, 0, none⟩) 0 0) [] := Vec.empty _ _ _ (Nat.le_refl _)
  have hbel := blw_alloc (Below.refl w.heap.size w) (.cells #[] 3)
  go_enter Tryd.func41, Tryd.ntmps41
  go_wp2_with fail
  go_loopw [1, 5] (fun z v wr => ∃ (cur : Int) (out : List Int) (A' : Option Addr) (c' : Nat), z = .int .i64 cur ∧ v = .slice A' out.length c' ∧ 0 ≤ cur ∧ cur ≤ 99 ∧ Vec wr w.heap.size 3 encInt 1 (.slice A' out.length c') out ∧ Below w.heap.size w wr ∧ Hid (upW l id = out.reverse ++ upW l cur ∧ (0 < cur → hasF l cur = true))) (fun z _ _ => (intOf z).toNat)
  case atStart => exact ⟨id, [], _, 0, rfl, rfl, by omega, t2, hmk, hbel, by simp, fun _ => Hhas.out⟩
  case round =>
    clear hmk hbel
    obtain ⟨cur, out, A', c', rfl, rfl, hc0, hc99, hv, hb, hh⟩ := hrel
    have hol : out.length ≤ 99 := by have h := congrArg List.length hh.out.1; rw [List.length_append, List.length_reverse] at h; omega
    by_cases hpos : 0 < cur
    · have hhc := hh.out.2 hpos
      obtain ⟨p1, p2, p3, p4, p5⟩ := tree_par Htree.out hhc
      have Hp5 := Lib.hid p5
      have hi := hasF_lt hhc
      have Hz := Lib.hid (show idxFI l cur = (idxF l cur : Int) by unfold idxFI; rw [hhc]; rfl)
      have Hpar := Lib.hid (show (l[idxF l cur]'hi).parent = parF l cur from parF_eq hhc)
      have HU := Lib.hid (upW_step hpos p4)
      clear p5 hhc
      have hsz := hb.size
      have hF1 : [cur].length + out.length ≤ maxLen := by unfold maxLen; simp; omega
      have hF2 : ([cur].length + out.length) * 8 ≤ 140737488355328 := by simp; omega
      have hv0 := (Vec.one_int (w := wr) (t := 3) cur).mono hsz
      go_wp2_with (at_builtin; refine wpList_app rfl (.tmp 10) (.tmp 11) 36 rfl 3 (.int .i64 0) 1 8 Tryd.underlying36 (by kernel_rfl) rfl (by omega) encInt_len one_int (some ⟨wr.heap.size, 0, none⟩) 1 [cur] rfl hv0 A' c' _ out rfl ((hv.alloc _).ls encInt_len) hF1 hF2 (by simp; omega) ?_; intro A2 c2 w1 hv1 hw1)
      have hB1 : Below w.heap.size w w1 := (blw_alloc hb _).trans (hw1.below (by simp; omega) (fun q hq => by obtain ⟨o, ho⟩ := hq; simp at ho; omega))
      refine (l3Find_any _ _ l cur _ ((hl.below hB1).more hB1.size) hlm).mono ?_
      rw [Hz.out]
      rintro e w2 ⟨rfl, hb2⟩
      obtain ⟨b, off, rfl, hbb, hd0, hd1, hd2⟩ := (hl.below (blw hB1 hb2)).at_Function hi
      rw [Hpar.out] at hd1
      have hi2 : (idxF l cur : Int) < (l.length : Int) := by omega
      go_wp2_with fail
      go_roundw
      case rel =>
        refine ⟨parF l cur, [cur] ++ out, A2, c2, rfl, by simp, p3, by omega, hv1.on hb2, blw hB1 hb2, ?_, Hp5.out⟩
        rw [hh.out.1, HU.out, List.reverse_append, List.append_assoc]; rfl
      case measure => simp [intOf]; omega
    · have hcz : cur ≤ 0 := by omega
      have Hp := Lib.hid (show pathF l id = out by unfold pathF; rw [hh.out.1, upW_end hcz, List.append_nil, List.reverse_reverse])
      go_wp2_with fail
      go_ret
      exact ⟨A', c', by rw [Hp.out]; rfl, by rw [Hp.out]; exact hv, hb⟩

end Go.Proofs.YtnjgnehiclkkoaaDoor
