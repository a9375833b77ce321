/- Contracts: SplitString, AppendChecksum, VerifyChecksum, as the laws take them. -/
import Derived.Test.YtebomppjcaahpaaDoorW1s
namespace Go.Proofs.YtebomppjcaahpaaDoor
set_option linter.unusedVariables false
set_option linter.unusedSimpArgs false
open Go.RowKit Go.Shelf
attribute [local go_sem] Aft.cell

def sepA (s : ByteArray) : UInt8 := s.data.toList.headD 0
def splB (s sep : ByteArray) : Bool := decide (s.size ≤ 4000) && decide (sep.size = 1)
def splL (s sep : ByteArray) : List ByteArray := if splB s sep then partsA (sepA sep) s else []
theorem splL_le (s sep : ByteArray) : (splL s sep).length ≤ 4001 := by
  unfold splL
  split
  · next h =>
    simp only [splB, Bool.and_eq_true, decide_eq_true_eq] at h
    have := partsA_len (sepA sep) s
    omega
  · simp
theorem sep_one {sep : ByteArray} (h : sep.size = 1) : sep.data.toList = [sepA sep] := by
  have h1 : sep.data.toList.length = 1 := by rw [ba_len]; exact h
  unfold sepA
  rcases hl : sep.data.toList with _ | ⟨a, r⟩
  · rw [hl] at h1; simp at h1
  · rw [hl] at h1
    simp at h1
    subst h1
    rfl
theorem sep_get {sep : ByteArray} (h : sep.size = 1) : sep[0]'(by omega) = sepA sep := by
  rw [← get_data (by omega : 0 < sep.size)]
  have := sep_one h
  simp [this]
theorem Vec.of_str {w : World} {l : List ByteArray} {t : TypeId} (hn : l.length ≤ maxLen) : Vec (w.alloc (.cells (l.map Value.string).toArray t)) w.heap.size t encStr 1 (.slice (some ⟨w.heap.size, 0, none⟩) l.length l.length) l := by
  have hf : l.flatMap encStr = l.map Value.string := by
    induction l with
    | nil => rfl
    | cons a l ih => rw [List.flatMap_cons, ih (by simp at hn; omega)]; rfl
  refine ⟨by rw [hf]; simp, .inr ⟨w.heap.size, l.length, _, rfl, Nat.le_refl _, heap_alloc_new w _, Nat.le_refl _, hn, by simp, ?_⟩⟩
  rw [hf, Nat.mul_one]
  exact List.take_of_length_le (by simp)

set_option maxHeartbeats 1000000 in
theorem c_impl_SplitString (s sep : ByteArray) (w : World) (hs : s.size ≤ 1048576) (hs2 : sep.size ≤ 1048576) (hm : Ml w) :
    Calls Tryd.prog 15 #[.string s, .string sep] w (RetSB w 9 encStr 1 (splL s sep) (splB s sep)) := by
  by_cases h1 : s.size ≤ 4000
  · by_cases h2 : sep.size = 1
    · have Hv := Lib.hid (show splB s sep = true ∧ splL s sep = partsA (sepA sep) s by simp [splL, splB, h1, h2])
      obtain ⟨m, hm⟩ := hm
      have hC := Any.strings_Split Tryd.lays146 (by kernel_rfl) s sep m w (by omega) hm (by omega)
      rw [splitB_parts (sepA sep) s sep (sep_one h2)] at hC
      have hlen : Lib.countB s sep + 1 = (partsA (sepA sep) s).length := by
        rw [← splitB_parts (sepA sep) s sep (sep_one h2)]
        exact (Lib.splitB_all sep (by omega) 0 _ s rfl).symm
      rw [hlen] at hC
      have hle := partsA_len (sepA sep) s
      have hvv := Vec.of_str (w := w) (l := partsA (sepA sep) s) (t := 9) (by unfold maxLen; omega)
      have Hle := Lib.hid hlen
      have h3 : (sep.size : Int) = 1 := by omega
      clear hlen
      generalize hP : partsA (sepA sep) s = P at *
      have HP := Lib.hid hP
      clear hP
      have H2 := Lib.hid h2
      have H3 := Lib.hid h3
      have h5 : ((sep.size : Int) != 1) = false := by simp [h3]
      have h6 : ((sep.size : Int) == 1) = true := by simp [h3]
      clear h2 h3
      go_enter Tryd.func15, Tryd.ntmps15
      go_wp2_with (go_at_call 48; refine hC.mono ?_; rintro e w' ⟨rfl, rfl⟩)
      go_ret2
      exact ⟨_, _, by rw [Hv.out.1, Hv.out.2]; rfl, by rw [Hv.out.2]; exact hvv, blw_alloc (Below.refl _ _) _⟩
    · have Hv := Lib.hid (show splB s sep = false ∧ splL s sep = [] by simp [splL, splB, h2])
      have h5 : ((sep.size : Int) != 1) = true := by simp; omega
      have h6 : ((sep.size : Int) == 1) = false := by simp; omega
      go_enter Tryd.func15, Tryd.ntmps15
      go_wp2_with fail
      go_ret2
      exact ⟨none, 0, by rw [Hv.out.1, Hv.out.2]; rfl, by rw [Hv.out.2]; exact Vec.nil, Below.refl _ _⟩
  · have Hv := Lib.hid (show splB s sep = false ∧ splL s sep = [] by simp [splL, splB, h1])
    have h1' : 4000 < s.size := by omega
    go_enter Tryd.func15, Tryd.ntmps15
    go_wp2_with fail
    go_ret2
    exact ⟨none, 0, by rw [Hv.out.1, Hv.out.2]; rfl, by rw [Hv.out.2]; exact Vec.nil, Below.refl _ _⟩

set_option maxHeartbeats 1000000 in
theorem c_spec_SplitString (s sep : ByteArray) (w : World) (hs : s.size ≤ 1048576) (hs2 : sep.size ≤ 1048576) :
    Calls Tryd.prog 14 #[.string s, .string sep] w (RetSB w 9 encStr 1 (splL s sep) (splB s sep)) := by
  by_cases h2 : sep.size = 1
  · have H2 := Lib.hid h2
    have h0 : 0 < sep.size := by omega
    have h5 : ((sep.size : Int) != 1) = false := by simp [h2]
    have h6 : ((sep.size : Int) == 1) = true := by simp [h2]
    have Hg := Lib.hid (show sep[0]'h0 = sepA sep from sep_get h2)
    clear h2
    by_cases h1 : s.size ≤ 4000
    · have Hv := Lib.hid (show splB s sep = true ∧ splL s sep = partsA (sepA sep) s by simp [splL, splB, h1, H2.out])
      have hC := l1Split_any s (sepA sep) w hs
      go_enter Tryd.func14, Tryd.ntmps14
      go_wp2_with fail
      rw [Hg.out]
      refine hC.mono ?_
      rintro e w1 ⟨A, c, rfl, hv, hb⟩
      go_wp2_with fail
      go_ret2
      exact ⟨A, c, by rw [Hv.out.1, Hv.out.2]; rfl, by rw [Hv.out.2]; exact hv, hb⟩
    · have Hv := Lib.hid (show splB s sep = false ∧ splL s sep = [] by simp [splL, splB, h1])
      have h1' : 4000 < s.size := by omega
      go_enter Tryd.func14, Tryd.ntmps14
      go_wp2_with fail
      go_ret2
      exact ⟨_, 0, by rw [Hv.out.1, Hv.out.2]; rfl, by rw [Hv.out.2]; exact Vec.empty _ _ _ (Nat.le_refl _), blw_alloc (Below.refl _ _) _⟩
  · have Hv := Lib.hid (show splB s sep = false ∧ splL s sep = [] by simp [splL, splB, h2])
    have h5 : ((sep.size : Int) != 1) = true := by simp; omega
    have h6 : ((sep.size : Int) == 1) = false := by simp; omega
    go_enter Tryd.func14, Tryd.ntmps14
    go_wp2_with fail
    go_ret2
    exact ⟨_, 0, by rw [Hv.out.1, Hv.out.2]; rfl, by rw [Hv.out.2]; exact Vec.empty _ _ _ (Nat.le_refl _), blw_alloc (Below.refl _ _) _⟩

end Go.Proofs.YtebomppjcaahpaaDoor
