/- Contracts: SplitString, AppendChecksum, VerifyChecksum. -/
import Derived.Test.YtopfcfedcmpamaaDoorW1p
import Derived.Test.YtopfcfedcmpamaaDoorV
import Derived.Test.YtopfcfedcmpamaaDoorW1c
import Derived.Shelf.Vars
namespace Go.Proofs.YtopfcfedcmpamaaDoor
set_option linter.unusedVariables false
set_option linter.unusedSimpArgs false
open Go.RowKit Go.Shelf
attribute [local go_sem] Aft.cell

/-- Package bytealg's MaxLen is some number. -/
def Ml (w : World) : Prop := ∃ m, w.cell? ⟨0, 0, none⟩ = some (.int .i64 m)
theorem ml_below {w w' : World} (h : Ml w) (hb : Below w.heap.size w w') : Ml w' := by
  obtain ⟨m, h⟩ := h
  exact ⟨m, (hb.cell (cell_lt h)).trans h⟩
theorem ml_of_shape {W : World} (h : W.ShapedOpen Tryd.prog) : Ml W :=
  cell_of_shapedOpen_int (P := Tryd.prog) (g := 0) (t := 3) (zero := #[.int .i64 0]) h (of_decide_eq_true (by kernel_rfl)) (by kernel_rfl) rfl (by kernel_rfl) (by kernel_rfl) Tryd.underlying3


theorem extract_mid {s : ByteArray} {a b : Nat} : (s.extract a b).data.toList = (s.data.toList.drop a).take (b - a) := by
  rw [Lib.extract_data]
theorem ls_str {w : World} {g : Nat} {t : TypeId} {l : List ByteArray} (h : Blk w g t (l.map Value.string).toArray) : Ls w w.heap.size encStr 1 (some ⟨g, 0, none⟩) l := fun _ =>
  ⟨g, 0, rfl, h.lt, fun i hi j u hu => by
    have hj : j = 0 := by
      have := (List.getElem?_eq_some_iff.1 hu).1
      simp [encStr] at this; exact this
    subst hj
    simp [encStr] at hu
    subst hu
    rw [h.cell]
    simp [hi]⟩

/-- What l1Split has when it stands at place k, the part begun at place f: the parts laid so far, then the parts of what is left. -/
def SplitI (b : UInt8) (s : ByteArray) (out : List ByteArray) (f k : Nat) : Prop := partsA b s = out ++ (partsL b (s.data.toList.drop f)).map (fun l => ⟨l.toArray⟩) ∧ b ∉ (s.data.toList.drop f).take (k - f) ∧ f ≤ k ∧ out.length ≤ f
theorem SplitI.start (b : UInt8) (s : ByteArray) : SplitI b s [] 0 0 := ⟨by simp [partsA], by simp, Nat.le_refl _, Nat.le_refl _⟩
theorem drop_at {s : ByteArray} {f k : Nat} (hf : f ≤ k) (hk : k < s.size) : s.data.toList.drop f = (s.data.toList.drop f).take (k - f) ++ s[k] :: s.data.toList.drop (k + 1) := by
  conv => lhs; rw [← List.take_append_drop (k - f) (s.data.toList.drop f)]
  congr 1
  rw [List.drop_drop, show f + (k - f) = k by omega, ← get_data hk]
  exact List.drop_eq_getElem_cons (by rw [ba_len]; exact hk)
theorem SplitI.hit {b : UInt8} {s : ByteArray} {out : List ByteArray} {f k : Nat} (h : SplitI b s out f k) (hk : k < s.size) (hx : s[k] = b) : SplitI b s (out ++ [s.extract f k]) (k + 1) (k + 1) := by
  obtain ⟨h1, h2, h3, h4⟩ := h
  refine ⟨?_, by simp, Nat.le_refl _, by simp; omega⟩
  rw [h1, drop_at h3 hk, hx, partsL_hit _ h2, List.map_cons, List.append_assoc]
  congr 2
  exact ba_ext (by rw [extract_mid])
theorem SplitI.miss {b : UInt8} {s : ByteArray} {out : List ByteArray} {f k : Nat} (h : SplitI b s out f k) (hk : k < s.size) (hx : s[k] ≠ b) : SplitI b s out f (k + 1) := by
  obtain ⟨h1, h2, h3, h4⟩ := h
  refine ⟨h1, ?_, by omega, h4⟩
  have h5 : (s.data.toList.drop f).take (k + 1 - f) = (s.data.toList.drop f).take (k - f) ++ [s[k]] := by
    rw [show k + 1 - f = (k - f) + 1 by omega, List.take_succ_eq_append_getElem (by rw [List.length_drop, ba_len]; omega), List.getElem_drop]
    congr 2
    rw [← get_data hk]
    congr 1; omega
  rw [h5, List.mem_append, List.mem_singleton, not_or]
  exact ⟨h2, fun e => hx e.symm⟩
theorem SplitI.fin {b : UInt8} {s : ByteArray} {out : List ByteArray} {f : Nat} (h : SplitI b s out f s.size) : partsA b s = out ++ [s.extract f s.size] := by
  obtain ⟨h1, h2, h3, h4⟩ := h
  rw [List.take_of_length_le (by rw [List.length_drop, ba_len]; omega)] at h2
  rw [h1, partsL_none h2]
  congr 1
  simp only [List.map_cons, List.map_nil]
  congr 1
  exact ba_ext (by rw [Lib.extract_to_end])

set_option maxHeartbeats 1000000 in
theorem l1Split_any (s : ByteArray) (b : UInt8) (w : World) (hs : s.size ≤ 1048576) :
    Calls Tryd.prog 20 #[.string s, .int .u8 b.toNat] w (RetS w 9 encStr 1 (partsA b s)) := by
  go_enter Tryd.func20, Tryd.ntmps20
  go_wp2_with fail
  have hmk : Vec (w.alloc (.cells #[] 9)) w.heap.size 9 encStr 1 (.slice (some ⟨w.heap.size, 0, none⟩) 0 0) [] := Vec.empty _ _ _ (Nat.le_refl _)
  have hbel := blw_alloc (Below.refl w.heap.size w) (.cells #[] 9)
  go_loopw [5, 6, 7] (fun v fr i wr => ∃ (k f : Nat) (A' : Option Addr) (c' : Nat) (out : List ByteArray), k ≤ s.size ∧ i = .int .i64 k ∧ fr = .int .i64 f ∧ v = .slice A' out.length c' ∧ Vec wr w.heap.size 9 encStr 1 (.slice A' out.length c') out ∧ Below w.heap.size w wr ∧ Hid (SplitI b s out f k)) (fun _ _ i _ => s.size - (intOf i).toNat)
  case atStart => exact ⟨0, 0, _, 0, [], Nat.zero_le _, rfl, rfl, rfl, hmk, hbel, SplitI.start b s⟩
  case round =>
    clear hmk hbel
    obtain ⟨k, f, A', c', out, hk, rfl, rfl, rfl, hv, hb, hI⟩ := hrel
    have hfk := hI.out.2.2.1
    have hol := hI.out.2.2.2
    have hsz := hb.size
    by_cases hlt : k < s.size
    · cases hx : ((s[k].toNat : Int) == (b.toNat : Int))
      · have Hx := Lib.hid (hI.out.miss hlt (fun e => by rw [e] at hx; simp at hx))
        go_wp2_with fail
        go_roundw
        case rel => exact ⟨k + 1, f, A', c', out, by omega, by go_num, rfl, rfl, hv, hb, Hx.out⟩
        case measure => simp [intOf]; omega
      · have Hx := Lib.hid (hI.out.hit hlt (UInt8.toNat_inj.1 (by have h0 := beq_iff_eq.1 hx; omega)))
        have hF1 : out.length + [s.extract f k].length ≤ maxLen := by unfold maxLen; simp; omega
        have hF2 : (out.length + [s.extract f k].length) * 16 ≤ 140737488355328 := by simp; omega
        go_wp2_with (at_builtin; refine wpList_app rfl (.tmp 20) (.tmp 25) 41 rfl 9 (.string ⟨#[]⟩) 1 16 Tryd.underlying41 (by kernel_rfl) rfl (by omega) encStr_len one_str A' c' out rfl (hv.alloc _) (some ⟨wr.heap.size, 0, none⟩) 1 (wr.heap.size + 1) [s.extract f k] rfl (Ls.one_at rfl rfl) hF1 hF2 (by simp; omega) ?_; intro A2 c2 w1 hv1 hw1)
        go_roundw
        case rel =>
          refine ⟨k + 1, k + 1, A2, c2, out ++ [s.extract f k], by omega, by go_num, by go_num, by simp, hv1, ?_, Hx.out⟩
          exact (blw_alloc hb _).trans (hw1.below (by simp; omega) (fun q hq => by have := (hv.block hq).1; omega))
        case measure => simp [intOf]; omega
    · have hkk : k = s.size := by omega
      subst hkk
      have Hx := Lib.hid hI.out.fin
      have hF1 : out.length + [s.extract f s.size].length ≤ maxLen := by unfold maxLen; simp; omega
      have hF2 : (out.length + [s.extract f s.size].length) * 16 ≤ 140737488355328 := by simp; omega
      go_wp2_with (at_builtin; refine wpList_app rfl (.tmp 29) (.tmp 33) 41 rfl 9 (.string ⟨#[]⟩) 1 16 Tryd.underlying41 (by kernel_rfl) rfl (by omega) encStr_len one_str A' c' out rfl (hv.alloc _) (some ⟨wr.heap.size, 0, none⟩) 1 (wr.heap.size + 1) [s.extract f s.size] rfl (Ls.one_at rfl rfl) hF1 hF2 (by simp; omega) ?_; intro A2 c2 w1 hv1 hw1)
      go_ret
      refine ⟨A2, c2, by rw [Hx.out]; simp, by rw [Hx.out]; exact hv1, ?_⟩
      exact (blw_alloc hb _).trans (hw1.below (by simp; omega) (fun q hq => by have := (hv.block hq).1; omega))

end Go.Proofs.YtopfcfedcmpamaaDoor
