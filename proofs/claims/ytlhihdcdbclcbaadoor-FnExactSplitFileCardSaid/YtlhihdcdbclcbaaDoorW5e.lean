/- Contracts: l5Find, l5With, inState. -/
import Derived.Test.YtlhihdcdbclcbaaDoorW5d
import Derived.Test.YtlhihdcdbclcbaaDoorD5s
import Derived.Test.YtlhihdcdbclcbaaDoorVs
import Derived.Test.YtlhihdcdbclcbaaDoorSl
namespace Go.Proofs.YtlhihdcdbclcbaaDoor
set_option linter.unusedVariables false
set_option linter.unusedSimpArgs false
open Go.RowKit
attribute [local go_sem] Aft.cell

set_option maxHeartbeats 2000000 in
theorem l5Find_any (A : Option Addr) (c : Nat) (l : List FileD) (id st : Int) (w : World) (hl : Ls w w.heap.size encFile 7 A l) (hm : l.length ≤ 1048576) (hnm : ∀ f ∈ l, f.title.size ≤ 1048576) (hcap : l.length ≤ c) :
    Calls Tryd.prog 33 #[.slice A l.length c, .int .i64 id, .int .i64 st] w fun e w' => e = .returned (.int .i64 (findXI l id st)) ∧ Below w.heap.size w w' := by
  have hlen : (l.length : Int) ≤ 1048576 := by omega
  go_enter Tryd.func33, Tryd.ntmps33
  go_wp2_with fail
  go_loopw [7] (fun i wr => ∃ j : Nat, j ≤ l.length ∧ i = .int .i64 j ∧ Below w.heap.size w wr ∧ Hid (∀ q (hq : q < l.length), q < j → ((l[q].id == id) && (decide (st < 0) || (l[q].state == st))) = false)) (fun i _ => l.length - (intOf i).toNat)
  case atStart => exact ⟨0, Nat.zero_le _, rfl, Below.refl _ _, fun q _ hq => absurd hq (Nat.not_lt_zero _)⟩
  case round =>
    obtain ⟨j, hj, rfl, hb, hall⟩ := hrel
    by_cases hjl : j < l.length
    · have hG := l5Good_any A c l wr ((hl.below hb).more hb.size) hm hnm hcap
      cases hg : filesB l
      · rw [hg] at hG
        have Hv := Lib.hid (findXI_bad hg id st)
        clear hg hnm
        go_wp2_with fail
        refine hG.mono ?_
        rintro e w1 ⟨rfl, hb1⟩
        go_wp2_with fail
        go_ret
        exact ⟨ret_int Hv.out.symm, blw hb hb1⟩
      · rw [hg] at hG
        have Hg := Lib.hid hg
        have Hnm := Lib.hid hnm
        clear hg hnm
        obtain ⟨b, off, rfl, hbb, hc0, hc1, hc2, hc3, hc4, hc5, hc6⟩ := (hl.below hb).at_File hjl
        have hsz := hb.size
        rcases (show (((l[j].id == id) && (decide (st < 0) || (l[j].state == st))) = false ∧ (l[j].id == id) = false) ∨ (((l[j].id == id) && (decide (st < 0) || (l[j].state == st))) = false ∧ (l[j].id == id) = true ∧ decide (st < 0) = false ∧ (l[j].state == st) = false) ∨
            (((l[j].id == id) && (decide (st < 0) || (l[j].state == st))) = true ∧ (l[j].id == id) = true ∧ decide (st < 0) = true) ∨ (((l[j].id == id) && (decide (st < 0) || (l[j].state == st))) = true ∧ (l[j].id == id) = true ∧ decide (st < 0) = false ∧ (l[j].state == st) = true) by
          cases (l[j].id == id) <;> cases decide (st < 0) <;> cases (l[j].state == st) <;> simp) with ⟨hx, e1⟩ | ⟨hx, e1, e2, e3⟩ | ⟨hx, e1, e2⟩ | ⟨hx, e1, e2, e3⟩
        iterate 2
          · have Hx := Lib.hid hx
            clear hx
            go_wp2_with fail
            refine hG.mono ?_
            rintro e w1 ⟨rfl, hb1⟩
            have hq : b < wr.heap.size := by omega
            have hq1 : b < w1.heap.size := by have := hb1.size; omega
            replace hc0 : w1.cell? ⟨b, off + j * 7, none⟩ = some (.int .i64 l[j].id) := (hb1.cell (p := ⟨b, off + j * 7, none⟩) hq).trans hc0
            replace hc5 : w1.cell? ⟨b, off + j * 7 + 5, none⟩ = some (.int .i64 l[j].state) := (hb1.cell (p := ⟨b, off + j * 7 + 5, none⟩) hq).trans hc5
            go_wp2_with fail
            go_roundw
            case rel => exact ⟨j + 1, by omega, by go_num, blw hb hb1, fun q hq hqj => by rcases Nat.lt_succ_iff_lt_or_eq.1 hqj with h | rfl; exact hall.out q hq h; exact Hx.out⟩
            case measure => simp [intOf]; omega
        iterate 2
          · have Hv := Lib.hid (findXI_at (id := id) (st := st) Hg.out hjl (by simpa using e1) (by simp_all))
            clear hx
            go_wp2_with fail
            refine hG.mono ?_
            rintro e w1 ⟨rfl, hb1⟩
            have hq : b < wr.heap.size := by omega
            have hq1 : b < w1.heap.size := by have := hb1.size; omega
            replace hc0 : w1.cell? ⟨b, off + j * 7, none⟩ = some (.int .i64 l[j].id) := (hb1.cell (p := ⟨b, off + j * 7, none⟩) hq).trans hc0
            replace hc5 : w1.cell? ⟨b, off + j * 7 + 5, none⟩ = some (.int .i64 l[j].state) := (hb1.cell (p := ⟨b, off + j * 7 + 5, none⟩) hq).trans hc5
            go_wp2_with fail
            go_ret
            exact ⟨ret_int Hv.out.symm, blw hb hb1⟩
    · have hkk : j = l.length := by omega
      subst hkk
      have Hv := Lib.hid (findXI_none hall.out)
      go_wp2_with fail
      go_ret
      exact ⟨ret_int Hv.out.symm, hb⟩

theorem files_name {l : List FileD} {i : Nat} {x : FileD} (hnm : ∀ f ∈ l, f.title.size ≤ 1048576) (hx : x.title.size ≤ 1048576) : ∀ f ∈ l.set i x, f.title.size ≤ 1048576 := fun f hf => by
  rcases List.mem_or_eq_of_mem_set hf with h | rfl
  · exact hnm f h
  · exact hx

theorem l5Good_n (A : Option Addr) (c n : Nat) (l : List FileD) (w : World) (hn : l.length = n) (hl : Ls w w.heap.size encFile 7 A l) (hm : l.length ≤ 1048576) (hnm : ∀ f ∈ l, f.title.size ≤ 1048576) (hcap : l.length ≤ c) :
    Calls Tryd.prog 24 #[.slice A n c] w fun e w' => e = .returned (.bool (filesB l)) ∧ Below w.heap.size w w' := by
  subst hn
  exact l5Good_any A c l w hl hm hnm hcap
theorem AreFiles_n (A : Option Addr) (c n : Nat) (l : List FileD) (w : World) (hn : l.length = n) (hl : Ls w w.heap.size encFile 7 A l) (hm : l.length ≤ 1048576) (hnm : ∀ f ∈ l, f.title.size ≤ 1048576) (hcap : l.length ≤ c) :
    Calls Tryd.prog 26 #[.slice A n c] w fun e w' => e = .returned (.bool (filesB l)) ∧ Below w.heap.size w w' := by
  subst hn
  exact AreFiles_any A c l w hl hm hnm hcap



end Go.Proofs.YtlhihdcdbclcbaaDoor
