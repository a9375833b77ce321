/- Contracts: ParseInt. -/
import Derived.Test.YtopfcfedcmpamaaDoorW1n
import Derived.LaidSub
import Derived.MakeChecks
namespace Go.Proofs.YtopfcfedcmpamaaDoor
set_option linter.unusedVariables false
set_option linter.unusedSimpArgs false
open Go.RowKit Go.Shelf
attribute [local go_sem] Aft.cell

theorem iface_of_laid {P : Program} {W : World} {name nm : String} {d0 : DataW Unit} {rest : List (String × DataW Unit)} {g : Nat} {t : TypeId}
    (hg : P.globalNamed name = some g) (hty : (P.globals[g]?).map (·.type) = some t) (ht : ∃ ms, P.underlying t = some (.interface ms))
    (h : laidMet P ((name, .iface nm d0) :: rest) W) : ∃ tp pv, W.var? P name = some #[.iface tp pv] := by
  obtain ⟨ms, ht⟩ := ht
  obtain ⟨ps, ⟨g', t', cs, fuel, p, q, hg', ht', hvar, hd, _, _⟩, _⟩ := h
  obtain rfl := Option.some.inj (hg.symm.trans hg')
  obtain rfl := Option.some.inj (hty.symm.trans ht')
  have h1 : ∃ tp pv, cs.toList = [.iface tp pv] := by
    cases fuel with
    | zero => simp [DataW.trod] at hd
    | succ f =>
      unfold DataW.trod at hd
      rw [ht] at hd
      generalize cs.toList = l at hd
      match l, hd with
      | [.iface u v], _ => exact ⟨u, v, rfl⟩
      | Value.nilIface :: r, hd => cases r <;> simp at hd
  obtain ⟨tp, pv, h2⟩ := h1
  refine ⟨tp, pv, ?_⟩
  rw [hvar]
  congr 1
  exact Array.toList_inj.1 h2

theorem str_ne {a b : ByteArray} (h : a ≠ b) : (a.toList == b.toList) = false := by
  rw [beq_eq_false_iff_ne]
  intro hc
  exact h (ba_ext (by rw [← ByteArray.toList_eq, ← ByteArray.toList_eq, hc]))

theorem cell_lt {w : World} {a : Addr} {v : Value} (h : w.cell? a = some v) : a.block < w.heap.size := by
  rcases Nat.lt_or_ge a.block w.heap.size with h' | h'
  · exact h'
  · simp [World.cell?, Array.getElem?_eq_none h'] at h

theorem readB_no_atoi {s : List UInt8} (h : ∀ u, Lib.atoiAll s ≠ .ok u) : readB s = false := by
  cases hr : readB s
  · rfl
  · obtain ⟨_, _, _, h1, h2, h3⟩ := readB_spec hr
    have h4 := atoi_itoa h2 h3
    rw [h1] at h4
    exact absurd h4 (h _)
theorem readB_atoi {s : List UInt8} {v : Int} (h : Lib.atoiAll s = .ok v) : readB s = (fmtB v && decide (Lib.itoa v = s)) := by
  cases hr : readB s
  · cases hf : fmtB v
    · rfl
    · simp only [fmtB, Bool.and_eq_true, decide_eq_true_eq] at hf
      rw [Bool.true_and]
      symm
      rw [decide_eq_false_iff_not]
      intro h2
      rw [(readB_itoa h2 hf.1 hf.2).1] at hr
      cases hr
  · obtain ⟨_, _, _, h1, h2, h3⟩ := readB_spec hr
    have h4 := atoi_itoa h2 h3
    rw [h1, h] at h4
    obtain rfl : v = readI s := by injection h4
    simp [fmtB, h1, h2, h3]
theorem readI_atoi {s : List UInt8} {v : Int} (h : Lib.atoiAll s = .ok v) (hr : readB s = true) : readI s = v := by
  obtain ⟨_, _, _, h1, h2, h3⟩ := readB_spec hr
  have h4 := atoi_itoa h2 h3
  rw [h1, h] at h4
  injection h4 with h5
  exact h5.symm
theorem readI_no {s : List UInt8} (h : readB s = false) : readI s = 0 := by simp [readI, h]
theorem numB_eq {v : Int} {s : ByteArray} : numB v = s ↔ Lib.itoa v = s.data.toList := by
  constructor
  · rintro rfl; rw [numB_data]
  · intro h; exact ba_ext (by rw [numB_data, h])


/-- The text behind the sign. -/
def bodyB (s : ByteArray) : ByteArray := if negB s.data.toList then s.extract 1 s.size else s
theorem bodyB_data (s : ByteArray) : (bodyB s).data.toList = bodyL s.data.toList := by
  unfold bodyB bodyL
  split
  · rw [Lib.extract_to_end]
  · rfl
theorem get_data {s : ByteArray} {k : Nat} (h : k < s.size) : s.data.toList[k]'(by rw [ba_len]; exact h) = s[k] := by
  rw [Array.getElem_toList]; rfl
theorem take_snocB (s : ByteArray) (k : Nat) (h : k < s.size) : s.data.toList.take (k + 1) = s.data.toList.take k ++ [s[k]] := by
  rw [List.take_succ_eq_append_getElem (by rw [ba_len]; exact h), get_data h]
theorem valL_step (s : ByteArray) (k : Nat) (h : k < s.size) : valL (s.data.toList.take (k + 1)) = 10 * valL (s.data.toList.take k) + (s[k].toNat - 48) := by
  rw [take_snocB s k h, valL_snoc]
theorem all_step (s : ByteArray) (k : Nat) (h : k < s.size) : (s.data.toList.take (k + 1)).all digB = ((s.data.toList.take k).all digB && digB s[k]) := by
  rw [take_snocB s k h, List.all_append]; simp
theorem readB_len {s t : ByteArray} (ht : t = bodyB s) (h : ¬ (1 ≤ t.size ∧ t.size ≤ 6)) : readB s.data.toList = false := by
  have h1 : (bodyL s.data.toList).length = t.size := by rw [ht, ← bodyB_data, ba_len]
  unfold readB
  rw [h1]
  by_cases h2 : 1 ≤ t.size
  · have h3 : ¬ t.size ≤ 6 := fun h3 => h ⟨h2, h3⟩
    simp [h3]
  · simp [h2]
theorem readB_dig {s t : ByteArray} (ht : t = bodyB s) (k : Nat) (hk : k < t.size) (h : digB t[k] = false) : readB s.data.toList = false := by
  have h1 : (bodyL s.data.toList).all digB = false := by
    rw [List.all_eq_false]
    refine ⟨t[k], ?_, by rw [h]; exact Bool.false_ne_true⟩
    rw [← bodyB_data, ← ht, ← get_data hk]
    exact List.getElem_mem _
  unfold readB
  rw [h1]
  simp
theorem readB_end {s t : ByteArray} (ht : t = bodyB s) (h : 1 ≤ t.size ∧ t.size ≤ 6) (ha : (t.data.toList.take t.size).all digB = true) {m : Int} (hm : m = if negB s.data.toList then -(valL (t.data.toList.take t.size) : Int) else valL (t.data.toList.take t.size)) :
    readB s.data.toList = decide (Lib.itoa m = s.data.toList) ∧ (readB s.data.toList = true → readI s.data.toList = m) := by
  have e : t.data.toList.take t.size = t.data.toList := by rw [← ba_len]; exact List.take_length
  have h1 : (bodyL s.data.toList).length = t.size := by rw [ht, ← bodyB_data, ba_len]
  have h2 : bodyL s.data.toList = t.data.toList := by rw [ht, ← bodyB_data]
  have h3 : svalL s.data.toList = m := by rw [svalL, h2, hm, e]
  rw [e] at ha
  refine ⟨?_, fun h4 => by rw [readI, if_pos h4, h3]⟩
  unfold readB
  rw [h1, h2, ha, h3]
  simp [h.1, h.2]

end Go.Proofs.YtopfcfedcmpamaaDoor
