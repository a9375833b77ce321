/- Contracts: inState. -/
import Derived.Test.YtlhihdcdbclcbaaDoorW5e
namespace Go.Proofs.YtlhihdcdbclcbaaDoor
set_option linter.unusedVariables false
set_option linter.unusedSimpArgs false
open Go.RowKit
attribute [local go_sem] Aft.cell

theorem inSt_no {l : List FileD} {id st : Int} (h : hasX l id = false ∨ filesB l = false ∨ (hasX l id = true ∧ (stAt l (idxX l id) == st) = false)) : inSt l id st = false := by
  unfold inSt
  rcases h with h | h | h <;> simp [h]
theorem inSt_yes {l : List FileD} {id st : Int} (h1 : filesB l = true) (h2 : hasX l id = true) (h3 : (stAt l (idxX l id) == st) = true) : inSt l id st = true := by simp only [inSt, h1, h2, h3]; rfl

theorem AreFiles_v (A : Option Addr) (c : Nat) (l : List FileD) (w : World) (b : Bool) (hb : filesB l = b) (hl : Ls w w.heap.size encFile 7 A l) (hm : l.length ≤ 1048576) (hnm : ∀ f ∈ l, f.title.size ≤ 1048576) (hcap : l.length ≤ c) :
    Calls Tryd.prog 26 #[.slice A l.length c] w fun e w' => e = .returned (.bool b) ∧ Below w.heap.size w w' := by
  subst hb
  exact AreFiles_any A c l w hl hm hnm hcap

set_option maxHeartbeats 2000000 in
theorem inState_any (A : Option Addr) (c : Nat) (l : List FileD) (id st : Int) (w : World) (hl : Ls w w.heap.size encFile 7 A l) (hm : l.length ≤ 1048576) (hnm : ∀ f ∈ l, f.title.size ≤ 1048576) (hcap : l.length ≤ c) :
    Calls Tryd.prog 35 #[.slice A l.length c, .int .i64 id, .int .i64 st] w fun e w' => e = .returned (.tuple #[.int .i64 (idxXI l id), .bool (inSt l id st)]) ∧ Below w.heap.size w w' := by
  have hlm : l.length ≤ 9223372036854775807 := by omega
  have hlen : (l.length : Int) ≤ 1048576 := by omega
  cases h2 : hasX l id
  · have Hv := Lib.hid (inSt_no (st := st) (.inl h2))
    have Hz := Lib.hid (show idxXI l id = -1 by unfold idxXI; rw [h2]; rfl)
    rw [Hz.out]
    clear h2
    go_enter Tryd.func35, Tryd.ntmps35
    go_wp2_with fail
    refine (fileAt_any _ _ l id _ hl hlm).mono ?_
    rw [Hz.out]
    rintro e w1 ⟨rfl, hb1⟩
    have hlb := (hl.below hb1).more hb1.size
    cases hg : filesB l
    · go_wp2_with fail
      refine wp_region_calm (by kernel_rfl) (by kernel_rfl) ?_
      repeat (go_big_quiet_step ((go_at_call 26; refine Calls.calm (AreFiles_v _ _ l _ _ hg (hlb.below (Aft.h _) |>.more (Aft.h _).size) hm hnm hcap))))
      refine wpQuiet_nil ?_
      rintro w2 ⟨x1, hW1⟩
      have hb2 := x1.h
      rw [← hW1] at hb2
      clear hW1 x1
      go_wp2_with fail
      go_ret2
      exact ⟨by rw [Hv.out]; rfl, blw hb1 hb2⟩
    · go_wp2_with fail
      refine wp_region_calm (by kernel_rfl) (by kernel_rfl) ?_
      repeat (go_big_quiet_step ((go_at_call 26; refine Calls.calm (AreFiles_v _ _ l _ _ hg (hlb.below (Aft.h _) |>.more (Aft.h _).size) hm hnm hcap))))
      refine wpQuiet_nil ?_
      rintro w2 ⟨x1, hW1⟩
      have hb2 := x1.h
      rw [← hW1] at hb2
      clear hW1 x1
      go_wp2_with fail
      go_ret2
      exact ⟨by rw [Hv.out]; rfl, blw hb1 hb2⟩
  · have Hz := Lib.hid (show idxXI l id = (idxX l id : Int) by unfold idxXI; rw [h2]; rfl)
    have hlt := hasX_lt h2
    have H2 := Lib.hid h2
    rw [Hz.out]
    clear h2
    go_enter Tryd.func35, Tryd.ntmps35
    go_wp2_with fail
    refine (fileAt_any _ _ l id _ hl hlm).mono ?_
    rw [Hz.out]
    rintro e w1 ⟨rfl, hb1⟩
    have hlb := (hl.below hb1).more hb1.size
    cases hg : filesB l
    · have Hv := Lib.hid (inSt_no (id := id) (st := st) (.inr (.inl hg)))
      obtain ⟨b, off, rfl, hbb, hc0, hc1, hc2, hc3, hc4, hc5, hc6⟩ := hlb.at_File hlt
      go_wp2_with fail
      refine wp_region_calm (by kernel_rfl) (by kernel_rfl) ?_
      repeat (go_big_quiet_step ((go_at_call 26; refine Calls.calm (AreFiles_v _ _ l _ _ hg (hlb.below (Aft.h _) |>.more (Aft.h _).size) hm hnm hcap))))
      refine wpQuiet_nil ?_
      rintro w2 ⟨x1, hW1⟩
      have hb2 := x1.h
      rw [← hW1] at hb2
      clear hW1 x1
      go_wp2_with fail
      go_ret2
      exact ⟨by rw [Hv.out]; rfl, blw hb1 hb2⟩
    · have HG := Lib.hid hg
      obtain ⟨b, off, rfl, hbb, hc0, hc1, hc2, hc3, hc4, hc5, hc6⟩ := hlb.at_File hlt
      rw [stAt_eq] at hc5
      have hi1 : (idxX l id : Int) < (l.length : Int) := by omega
      cases hs : stAt l (idxX l id) == st
      · have Hv := Lib.hid (inSt_no (.inr (.inr ⟨H2.out, hs⟩)))
        go_wp2_with fail
        refine wp_region_calm (by kernel_rfl) (by kernel_rfl) ?_
        repeat (go_big_quiet_step ((go_at_call 26; refine Calls.calm (AreFiles_v _ _ l _ _ hg (hlb.below (Aft.h _) |>.more (Aft.h _).size) hm hnm hcap))))
        refine wpQuiet_nil ?_
        rintro w2 ⟨x1, hW1⟩
        have hb2 := x1.h
        rw [← hW1] at hb2
        clear hW1 x1
        go_wp2_with fail
        go_ret2
        exact ⟨by rw [Hv.out]; rfl, blw hb1 hb2⟩
      · have Hv := Lib.hid (inSt_yes HG.out H2.out hs)
        go_wp2_with fail
        refine wp_region_calm (by kernel_rfl) (by kernel_rfl) ?_
        repeat (go_big_quiet_step ((go_at_call 26; refine Calls.calm (AreFiles_v _ _ l _ _ hg (hlb.below (Aft.h _) |>.more (Aft.h _).size) hm hnm hcap))))
        refine wpQuiet_nil ?_
        rintro w2 ⟨x1, hW1⟩
        have hb2 := x1.h
        rw [← hW1] at hb2
        clear hW1 x1
        go_wp2_with fail
        go_ret2
        exact ⟨by rw [Hv.out]; rfl, blw hb1 hb2⟩

end Go.Proofs.YtlhihdcdbclcbaaDoor
