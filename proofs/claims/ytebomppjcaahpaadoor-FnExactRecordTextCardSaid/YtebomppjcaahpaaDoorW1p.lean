/- Contracts: ParseInt. -/
import Derived.Test.YtebomppjcaahpaaDoorW1n
import Derived.LaidSub
import Derived.MakeChecks
namespace Go.Proofs.YtebomppjcaahpaaDoor
set_option linter.unusedVariables false
set_option linter.unusedSimpArgs false
open Go.RowKit Go.Shelf
attribute [local go_sem] Aft.cell

theorem iface_of_laid {P : Program} {W : World} {name nm : String} {d0 : DataW Unit} {rest : List (String × DataW Unit)} {g : Nat} {t : TypeId}
    (hg : P.globalNamed name = some g) (hty : (P.globals[g]?).map (·.type) = some t) (ht : ∃ ms, P.underlying t = some (.interface ms))
    (h : laidMet P ((name, .iface nm d0) :: rest) W) : ∃ tp pv, W.var? P name = some #[.iface tp pv] := by
  obtain ⟨ms, ht⟩ := ht
  obtain ⟨ps, ⟨g', t', cs, fuel, p, q, hg', ht', hvar, hd, _, _⟩, _⟩ := h
  obtain rfl := Option.some.inj (hg.symm.trans hg')
  obtain rfl := Option.some.inj (hty.symm.trans ht')
  have h1 : ∃ tp pv, cs.toList = [.iface tp pv] := by
    cases fuel with
    | zero => simp [DataW.trod] at hd
    | succ f =>
      unfold DataW.trod at hd
      rw [ht] at hd
      generalize cs.toList = l at hd
      match l, hd with
      | [.iface u v], _ => exact ⟨u, v, rfl⟩
      | Value.nilIface :: r, hd => cases r <;> simp at hd
  obtain ⟨tp, pv, h2⟩ := h1
  refine ⟨tp, pv, ?_⟩
  rw [hvar]
  congr 1
  exact Array.toList_inj.1 h2

theorem str_ne {a b : ByteArray} (h : a ≠ b) : (a.toList == b.toList) = false := by
  rw [beq_eq_false_iff_ne]
  intro hc
  exact h (ba_ext (by rw [← ByteArray.toList_eq, ← ByteArray.toList_eq, hc]))

/-- The two errors of package strconv stand. -/
def Errs (w : World) : Prop := (∃ tp pv, w.cell? ⟨1, 0, none⟩ = some (.iface tp pv)) ∧ ∃ tp pv, w.cell? ⟨2, 0, none⟩ = some (.iface tp pv)
theorem cell_lt {w : World} {a : Addr} {v : Value} (h : w.cell? a = some v) : a.block < w.heap.size := by
  rcases Nat.lt_or_ge a.block w.heap.size with h' | h'
  · exact h'
  · simp [World.cell?, Array.getElem?_eq_none h'] at h
theorem errs_below {w w' : World} (h : Errs w) (hb : Below w.heap.size w w') : Errs w' := by
  obtain ⟨⟨t1, p1, h1⟩, t2, p2, h2⟩ := h
  exact ⟨⟨t1, p1, (hb.cell (cell_lt h1)).trans h1⟩, t2, p2, (hb.cell (cell_lt h2)).trans h2⟩
theorem errs_of_laid {W : World} {n1 n2 : String} {d1 d2 : DataW Unit} (h1 : laidMet Tryd.prog [("strconv.ErrSyntax", .iface n1 d1)] W) (h2 : laidMet Tryd.prog [("strconv.ErrRange", .iface n2 d2)] W) : Errs W := by
  obtain ⟨t1, p1, e1⟩ := iface_of_laid (g := 1) (t := 81) (by kernel_rfl) (by kernel_rfl) ⟨_, Tryd.underlying81⟩ h1
  obtain ⟨t2, p2, e2⟩ := iface_of_laid (g := 2) (t := 81) (by kernel_rfl) (by kernel_rfl) ⟨_, Tryd.underlying81⟩ h2
  exact ⟨⟨t1, p1, by simpa using World.var?_cell (P := Tryd.prog) (g := 1) (by kernel_rfl) e1 0⟩, t2, p2, by simpa using World.var?_cell (P := Tryd.prog) (g := 2) (by kernel_rfl) e2 0⟩

/-- What strconv.Atoi hands back. -/
def AtoiS (w : World) (s : ByteArray) (e : Ending) (w' : World) : Prop :=
  (∃ v, Lib.atoiAll s.data.toList = .ok v ∧ e = .returned (.tuple #[.int .i64 v, .nilIface]) ∧ Below w.heap.size w w') ∨
  (∃ v t N, (∀ u, Lib.atoiAll s.data.toList ≠ .ok u) ∧ e = .returned (.tuple #[.int .i64 v, .iface t (.pointer (some ⟨N, 0, none⟩))]) ∧ Below w.heap.size w w')
theorem Atoi_any (s : ByteArray) (hs : s.size ≤ 1048576) (w : World) (he : Errs w) : Calls Tryd.prog 69 #[.string s] w (AtoiS w s) := by
  obtain ⟨⟨t1, p1, h1⟩, t2, p2, h2⟩ := he
  cases ha : Lib.atoiAll s.data.toList with
  | ok v =>
    refine (Any.strconv_Atoi_ok Tryd.laysC172 s (by omega) v ha w).mono fun e w' h => ?_
    obtain ⟨rfl, h⟩ := h
    refine .inl ⟨v, ha, rfl, ?_⟩
    rcases h with rfl | ⟨t, rfl⟩
    · exact Below.refl _ _
    · exact Lib.bytesWorld_below _ _ _
  | «syntax» =>
    refine (Any.strconv_Atoi_syntax Tryd.laysC172 s (by omega) ha (.iface t1 p1) w h1 (.inr ⟨t1, p1, rfl⟩)).mono fun e w' h => ?_
    obtain ⟨N, rfl, _, _, hb⟩ := h
    exact .inr ⟨_, _, N, (fun u hu => by rw [ha] at hu; cases hu), rfl, hb⟩
  | range =>
    refine (Any.strconv_Atoi_range Tryd.laysC172 s (by omega) ha (.iface t2 p2) w h2 (.inr ⟨t2, p2, rfl⟩)).mono fun e w' h => ?_
    obtain ⟨N, rfl, _, _, hb⟩ := h
    exact .inr ⟨_, _, N, (fun u hu => by rw [ha] at hu; cases hu), rfl, hb⟩

theorem readB_no_atoi {s : List UInt8} (h : ∀ u, Lib.atoiAll s ≠ .ok u) : readB s = false := by
  cases hr : readB s
  · rfl
  · obtain ⟨_, _, _, h1, h2, h3⟩ := readB_spec hr
    have h4 := atoi_itoa h2 h3
    rw [h1] at h4
    exact absurd h4 (h _)
theorem readB_atoi {s : List UInt8} {v : Int} (h : Lib.atoiAll s = .ok v) : readB s = (fmtB v && decide (Lib.itoa v = s)) := by
  cases hr : readB s
  · cases hf : fmtB v
    · rfl
    · simp only [fmtB, Bool.and_eq_true, decide_eq_true_eq] at hf
      rw [Bool.true_and]
      symm
      rw [decide_eq_false_iff_not]
      intro h2
      rw [(readB_itoa h2 hf.1 hf.2).1] at hr
      cases hr
  · obtain ⟨_, _, _, h1, h2, h3⟩ := readB_spec hr
    have h4 := atoi_itoa h2 h3
    rw [h1, h] at h4
    obtain rfl : v = readI s := by injection h4
    simp [fmtB, h1, h2, h3]
theorem readI_atoi {s : List UInt8} {v : Int} (h : Lib.atoiAll s = .ok v) (hr : readB s = true) : readI s = v := by
  obtain ⟨_, _, _, h1, h2, h3⟩ := readB_spec hr
  have h4 := atoi_itoa h2 h3
  rw [h1, h] at h4
  injection h4 with h5
  exact h5.symm
theorem readI_no {s : List UInt8} (h : readB s = false) : readI s = 0 := by simp [readI, h]
theorem numB_eq {v : Int} {s : ByteArray} : numB v = s ↔ Lib.itoa v = s.data.toList := by
  constructor
  · rintro rfl; rw [numB_data]
  · intro h; exact ba_ext (by rw [numB_data, h])

set_option maxHeartbeats 1000000 in
theorem c_impl_ParseInt (s : ByteArray) (w : World) (hs : s.size ≤ 1048576) (ht : Tab w) (he : Errs w) :
    Calls Tryd.prog 34 #[.string s] w fun e w' => e = .returned (.tuple #[.int .i64 (readI s.data.toList), .bool (readB s.data.toList)]) ∧ Below w.heap.size w w' := by
  go_enter Tryd.func34, Tryd.ntmps34
  go_wp2_with fail
  refine (Atoi_any s hs w he).mono ?_
  rintro e w1 (⟨v, ha, rfl, hb1⟩ | ⟨v, t, N, ha, rfl, hb1⟩)
  · have hb := Lib.atoiAll_bounds ha
    have hr := readB_atoi ha
    have hi := readI_atoi ha
    cases hf : fmtB v
    · rw [hf, Bool.false_and] at hr
      have Hr := Lib.hid (show readB s.data.toList = false ∧ readI s.data.toList = 0 from ⟨hr, readI_no hr⟩)
      clear hr hi ha
      go_wp2_with (go_at_call 45; refine (within_any _ _ _ _).mono ?_; rw [show (decide (-999999 ≤ v) && decide (v ≤ 999999)) = false from hf]; rintro e w' ⟨rfl, rfl⟩)
      go_ret2
      exact ⟨by rw [Hr.out.1, Hr.out.2]; rfl, hb1⟩
    · have hD := decimal_any v hb w1 (tab_below ht hb1)
      by_cases hq : numB v = s
      · have q1 : ((numB v).toList == s.toList) = true := by rw [hq]; exact beq_self_eq_true _
        rw [hf, Bool.true_and, decide_eq_true (numB_eq.1 hq)] at hr
        have Hr := Lib.hid (show readB s.data.toList = true ∧ readI s.data.toList = v from ⟨hr, hi hr⟩)
        clear hr hi ha hq
        go_wp2_with (first | (go_at_call 45; refine (within_any _ _ _ _).mono ?_; rw [show (decide (-999999 ≤ v) && decide (v ≤ 999999)) = true from hf]; rintro e w' ⟨rfl, rfl⟩) | (go_at_call 46; refine hD.mono ?_; rintro e w2 ⟨rfl, hb2⟩))
        go_ret2
        exact ⟨by rw [Hr.out.1, Hr.out.2]; rfl, blw hb1 hb2⟩
      · have q1 : ((numB v).toList == s.toList) = false := str_ne hq
        rw [hf, Bool.true_and, decide_eq_false (fun h => hq (numB_eq.2 h))] at hr
        have Hr := Lib.hid (show readB s.data.toList = false ∧ readI s.data.toList = 0 from ⟨hr, readI_no hr⟩)
        clear hr hi ha hq
        go_wp2_with (first | (go_at_call 45; refine (within_any _ _ _ _).mono ?_; rw [show (decide (-999999 ≤ v) && decide (v ≤ 999999)) = true from hf]; rintro e w' ⟨rfl, rfl⟩) | (go_at_call 46; refine hD.mono ?_; rintro e w2 ⟨rfl, hb2⟩))
        go_ret2
        exact ⟨by rw [Hr.out.1, Hr.out.2]; rfl, blw hb1 hb2⟩
  · have hr := readB_no_atoi ha
    have Hr := Lib.hid (show readB s.data.toList = false ∧ readI s.data.toList = 0 from ⟨hr, readI_no hr⟩)
    clear hr ha
    go_wp2_with fail
    go_ret2
    exact ⟨by rw [Hr.out.1, Hr.out.2]; rfl, hb1⟩

/-- The text behind the sign. -/
def bodyB (s : ByteArray) : ByteArray := if negB s.data.toList then s.extract 1 s.size else s
theorem bodyB_data (s : ByteArray) : (bodyB s).data.toList = bodyL s.data.toList := by
  unfold bodyB bodyL
  split
  · rw [Lib.extract_to_end]
  · rfl
theorem get_data {s : ByteArray} {k : Nat} (h : k < s.size) : s.data.toList[k]'(by rw [ba_len]; exact h) = s[k] := by
  rw [Array.getElem_toList]; rfl
theorem take_snocB (s : ByteArray) (k : Nat) (h : k < s.size) : s.data.toList.take (k + 1) = s.data.toList.take k ++ [s[k]] := by
  rw [List.take_succ_eq_append_getElem (by rw [ba_len]; exact h), get_data h]
theorem valL_step (s : ByteArray) (k : Nat) (h : k < s.size) : valL (s.data.toList.take (k + 1)) = 10 * valL (s.data.toList.take k) + (s[k].toNat - 48) := by
  rw [take_snocB s k h, valL_snoc]
theorem all_step (s : ByteArray) (k : Nat) (h : k < s.size) : (s.data.toList.take (k + 1)).all digB = ((s.data.toList.take k).all digB && digB s[k]) := by
  rw [take_snocB s k h, List.all_append]; simp
theorem readB_len {s t : ByteArray} (ht : t = bodyB s) (h : ¬ (1 ≤ t.size ∧ t.size ≤ 6)) : readB s.data.toList = false := by
  have h1 : (bodyL s.data.toList).length = t.size := by rw [ht, ← bodyB_data, ba_len]
  unfold readB
  rw [h1]
  by_cases h2 : 1 ≤ t.size
  · have h3 : ¬ t.size ≤ 6 := fun h3 => h ⟨h2, h3⟩
    simp [h3]
  · simp [h2]
theorem readB_dig {s t : ByteArray} (ht : t = bodyB s) (k : Nat) (hk : k < t.size) (h : digB t[k] = false) : readB s.data.toList = false := by
  have h1 : (bodyL s.data.toList).all digB = false := by
    rw [List.all_eq_false]
    refine ⟨t[k], ?_, by rw [h]; exact Bool.false_ne_true⟩
    rw [← bodyB_data, ← ht, ← get_data hk]
    exact List.getElem_mem _
  unfold readB
  rw [h1]
  simp
theorem readB_end {s t : ByteArray} (ht : t = bodyB s) (h : 1 ≤ t.size ∧ t.size ≤ 6) (ha : (t.data.toList.take t.size).all digB = true) {m : Int} (hm : m = if negB s.data.toList then -(valL (t.data.toList.take t.size) : Int) else valL (t.data.toList.take t.size)) :
    readB s.data.toList = decide (Lib.itoa m = s.data.toList) ∧ (readB s.data.toList = true → readI s.data.toList = m) := by
  have e : t.data.toList.take t.size = t.data.toList := by rw [← ba_len]; exact List.take_length
  have h1 : (bodyL s.data.toList).length = t.size := by rw [ht, ← bodyB_data, ba_len]
  have h2 : bodyL s.data.toList = t.data.toList := by rw [ht, ← bodyB_data]
  have h3 : svalL s.data.toList = m := by rw [svalL, h2, hm, e]
  rw [e] at ha
  refine ⟨?_, fun h4 => by rw [readI, if_pos h4, h3]⟩
  unfold readB
  rw [h1, h2, ha, h3]
  simp [h.1, h.2]

set_option maxHeartbeats 4000000 in
theorem l1Read_any (s : ByteArray) (w : World) (hs : s.size ≤ 9223372036854775807) :
    Calls Tryd.prog 68 #[.string s] w fun e w' => e = .returned (.tuple #[.int .i64 (readI s.data.toList), .bool (readB s.data.toList)]) ∧ Below w.heap.size w w' := by
  rcases (show (∃ h : 1 < s.size, ((s[0].toNat : Int) == 45) = false) ∨ (∃ h : 1 < s.size, ((s[0].toNat : Int) == 45) = true) ∨ ¬ 1 < s.size by
    by_cases h1 : 1 < s.size
    · cases h2 : ((s[0].toNat : Int) == 45)
      · exact .inl ⟨h1, h2⟩
      · exact .inr (.inl ⟨h1, h2⟩)
    · exact .inr (.inr h1)) with ⟨h1, h2⟩ | ⟨h1, h2⟩ | h1
  · skip
    have hneg : negB s.data.toList = false := by
      rcases hc : negB s.data.toList
      · rfl
      · exfalso
        simp [negB] at hc
        have h3 := hc.2
        rw [← get_data (by omega : 0 < s.size)] at h2
        rcases hl : s.data.toList with _ | ⟨a, r⟩
        · rw [hl] at h3; simp at h3
        · simp only [hl] at h3 h2
          simp at h3 h2
          subst h3
          simp at h2
    have hb : Hid (s = bodyB s) := by unfold Hid bodyB; rw [hneg]; rfl
    have Hneg := Lib.hid hneg
    clear hneg
    go_enter Tryd.func68, Tryd.ntmps68
    go_wp2_with fail
    by_cases hlen : 1 ≤ s.size ∧ s.size ≤ 6
    · have hle : (decide ((1 : Int) ≤ ((s.size : Int))) && decide (((s.size : Int)) ≤ 6)) = true := by simp; omega
      refine (l1In_any _ _ _ _).mono ?_
      rw [hle]
      rintro e w' ⟨rfl, rfl⟩
      clear hle
      go_wp2_with fail
      go_loop [5, 6] (fun n i => ∃ k : Nat, k ≤ s.size ∧ i = .int .i64 k ∧ n = .int .i64 (valL (s.data.toList.take k)) ∧ Hid ((s.data.toList.take k).all digB = true)) (fun _ i => s.size - (intOf i).toNat)
      case atStart => exact ⟨0, Nat.zero_le _, rfl, rfl, by simp [Hid]⟩
      case round =>
        obtain ⟨k, hk, rfl, rfl, hall⟩ := hrel
        have hv : valL (s.data.toList.take k) ≤ 999999 := valL_le _ hall.out (by rw [List.length_take]; omega)
        by_cases hlt : k < s.size
        · have hbt := s[k].toNat_lt
          cases hd : digB s[k]
          · have Hr := Lib.hid (readB_dig hb.out k hlt hd)
            have Hi := Lib.hid (readI_no Hr.out)
            by_cases h3 : s[k].toNat < 48
            · clear hd
              go_wp2_with fail
              go_ret2
              exact ⟨by rw [Hr.out, Hi.out]; rfl, Below.refl _ _⟩
            · have h4 : 57 < s[k].toNat := by simp [digB] at hd; omega
              clear hd
              go_wp2_with fail
              go_ret2
              exact ⟨by rw [Hr.out, Hi.out]; rfl, Below.refl _ _⟩
          · have h34 := (digB_iff _).1 hd
            have h3 : ¬ s[k].toNat < 48 := by omega
            have h4 : ¬ 57 < s[k].toNat := by omega
            have h5 : 48 ≤ s[k].toNat := by omega
            have Hs := Lib.hid (valL_step s k hlt)
            have Ha := Lib.hid (show (s.data.toList.take (k + 1)).all digB = true by rw [all_step s k hlt, hall.out, hd]; rfl)
            clear hd h34
            go_wp2_with fail
            go_round
            case rel => exact ⟨k + 1, by omega, by go_num, by rw [Hs.out]; congr 1; omega, Ha.out⟩
            case measure => simp [intOf]; omega
        · have hkk : k = s.size := by omega
          subst hkk
          obtain ⟨m, hm⟩ : ∃ m : Int, m = (valL (s.data.toList.take s.size) : Int) := ⟨_, rfl⟩
          have hm1 : -999999 ≤ m := by omega
          have hm2 : m ≤ 999999 := by omega
          have hre := readB_end hb.out hlen hall.out (m := m) (by rw [Hneg.out]; exact hm)
          have Hm := Lib.hid hm
          clear hm
          by_cases hq : numB m = s
          · have q1 : ((numB m).toList == s.toList) = true := by rw [hq]; exact beq_self_eq_true _
            have hr := hre.1
            rw [decide_eq_true (numB_eq.1 hq)] at hr
            have Hr := Lib.hid hr
            have Hi := Lib.hid (hre.2 hr)
            clear hr hre hq
            go_wp2_with fail
            rw [← Hm.out]
            refine (l1Num_any m (by omega) (by omega) _).mono ?_
            rintro e w1 ⟨rfl, hb1⟩
            go_wp2_with fail
            go_ret2
            exact ⟨by rw [Hr.out, Hi.out, Hm.out]; rfl, hb1⟩
          · have q1 : ((numB m).toList == s.toList) = false := str_ne hq
            have hr := hre.1
            rw [decide_eq_false (fun h => hq (numB_eq.2 h))] at hr
            have Hr := Lib.hid hr
            have Hi := Lib.hid (readI_no hr)
            clear hr hre hq
            go_wp2_with fail
            rw [← Hm.out]
            refine (l1Num_any m (by omega) (by omega) _).mono ?_
            rintro e w1 ⟨rfl, hb1⟩
            go_wp2_with fail
            go_ret2
            exact ⟨by rw [Hr.out, Hi.out]; rfl, hb1⟩
    · have hle : (decide ((1 : Int) ≤ ((s.size : Int))) && decide (((s.size : Int)) ≤ 6)) = false := by simp; omega
      have Hr := Lib.hid (readB_len hb.out hlen)
      have Hi := Lib.hid (readI_no Hr.out)
      refine (l1In_any _ _ _ _).mono ?_
      rw [hle]
      rintro e w' ⟨rfl, rfl⟩
      go_wp2_with fail
      go_ret2
      exact ⟨by rw [Hr.out, Hi.out]; rfl, Below.refl _ _⟩
  · skip
    have hneg : negB s.data.toList = true := by
      rw [← get_data (by omega : 0 < s.size)] at h2
      rcases hl : s.data.toList with _ | ⟨a, r⟩
      · have := ba_len s; rw [hl] at this; simp at this; omega
      · simp only [hl] at h2
        simp at h2
        have hlen : r.length + 1 = s.size := by rw [← ba_len s, hl]; simp
        have ha : a = 45 := by
          apply UInt8.toNat_inj.1
          have h3 : ((a.toNat : Nat) : Int) = 45 := h2
          show a.toNat = 45
          omega
        simp [negB, ha]; omega
    have hb : Hid (s.extract 1 s.size = bodyB s) := by unfold Hid bodyB; rw [hneg]; rfl
    have Hneg := Lib.hid hneg
    clear hneg
    go_enter Tryd.func68, Tryd.ntmps68
    go_wp2_with fail
    have ht1 : (s.extract 1 s.size).size = s.size - 1 := by rw [ByteArray.size_extract]; omega
    generalize s.extract 1 s.size = t at *
    have ht2 : t.size < s.size := by omega
    have ht3 : t.size ≤ 9223372036854775807 := by omega
    have ht4 : t.size ≤ s.size - 1 := by omega
    have ht5 : s.size - 1 ≤ t.size := by omega
    clear ht1
    by_cases hlen : 1 ≤ t.size ∧ t.size ≤ 6
    · have hle : (decide ((1 : Int) ≤ (((s.size - 1 : Nat) : Int))) && decide ((((s.size - 1 : Nat) : Int)) ≤ 6)) = true := by simp; omega
      refine (l1In_any _ _ _ _).mono ?_
      rw [hle]
      rintro e w' ⟨rfl, rfl⟩
      clear hle
      go_wp2_with fail
      go_loop [5, 6] (fun n i => ∃ k : Nat, k ≤ t.size ∧ i = .int .i64 k ∧ n = .int .i64 (valL (t.data.toList.take k)) ∧ Hid ((t.data.toList.take k).all digB = true)) (fun _ i => t.size - (intOf i).toNat)
      case atStart => exact ⟨0, Nat.zero_le _, rfl, rfl, by simp [Hid]⟩
      case round =>
        obtain ⟨k, hk, rfl, rfl, hall⟩ := hrel
        have hv : valL (t.data.toList.take k) ≤ 999999 := valL_le _ hall.out (by rw [List.length_take]; omega)
        by_cases hlt : k < t.size
        · have hbt := t[k].toNat_lt
          cases hd : digB t[k]
          · have Hr := Lib.hid (readB_dig hb.out k hlt hd)
            have Hi := Lib.hid (readI_no Hr.out)
            by_cases h3 : t[k].toNat < 48
            · clear hd
              go_wp2_with fail
              go_ret2
              exact ⟨by rw [Hr.out, Hi.out]; rfl, Below.refl _ _⟩
            · have h4 : 57 < t[k].toNat := by simp [digB] at hd; omega
              clear hd
              go_wp2_with fail
              go_ret2
              exact ⟨by rw [Hr.out, Hi.out]; rfl, Below.refl _ _⟩
          · have h34 := (digB_iff _).1 hd
            have h3 : ¬ t[k].toNat < 48 := by omega
            have h4 : ¬ 57 < t[k].toNat := by omega
            have h5 : 48 ≤ t[k].toNat := by omega
            have Hs := Lib.hid (valL_step t k hlt)
            have Ha := Lib.hid (show (t.data.toList.take (k + 1)).all digB = true by rw [all_step t k hlt, hall.out, hd]; rfl)
            clear hd h34
            go_wp2_with fail
            go_round
            case rel => exact ⟨k + 1, by omega, by go_num, by rw [Hs.out]; congr 1; omega, Ha.out⟩
            case measure => simp [intOf]; omega
        · have hkk : k = t.size := by omega
          subst hkk
          obtain ⟨m, hm⟩ : ∃ m : Int, m = -(valL (t.data.toList.take t.size) : Int) := ⟨_, rfl⟩
          have hm1 : -999999 ≤ m := by omega
          have hm2 : m ≤ 999999 := by omega
          have hre := readB_end hb.out hlen hall.out (m := m) (by rw [Hneg.out]; exact hm)
          have Hm := Lib.hid hm
          clear hm
          by_cases hq : numB m = s
          · have q1 : ((numB m).toList == s.toList) = true := by rw [hq]; exact beq_self_eq_true _
            have hr := hre.1
            rw [decide_eq_true (numB_eq.1 hq)] at hr
            have Hr := Lib.hid hr
            have Hi := Lib.hid (hre.2 hr)
            clear hr hre hq
            go_wp2_with fail
            rw [← Hm.out]
            refine (l1Num_any m (by omega) (by omega) _).mono ?_
            rintro e w1 ⟨rfl, hb1⟩
            go_wp2_with fail
            go_ret2
            exact ⟨by rw [Hr.out, Hi.out, Hm.out]; rfl, hb1⟩
          · have q1 : ((numB m).toList == s.toList) = false := str_ne hq
            have hr := hre.1
            rw [decide_eq_false (fun h => hq (numB_eq.2 h))] at hr
            have Hr := Lib.hid hr
            have Hi := Lib.hid (readI_no hr)
            clear hr hre hq
            go_wp2_with fail
            rw [← Hm.out]
            refine (l1Num_any m (by omega) (by omega) _).mono ?_
            rintro e w1 ⟨rfl, hb1⟩
            go_wp2_with fail
            go_ret2
            exact ⟨by rw [Hr.out, Hi.out]; rfl, hb1⟩
    · have hle : (decide ((1 : Int) ≤ (((s.size - 1 : Nat) : Int))) && decide ((((s.size - 1 : Nat) : Int)) ≤ 6)) = false := by simp; omega
      have Hr := Lib.hid (readB_len hb.out hlen)
      have Hi := Lib.hid (readI_no Hr.out)
      refine (l1In_any _ _ _ _).mono ?_
      rw [hle]
      rintro e w' ⟨rfl, rfl⟩
      go_wp2_with fail
      go_ret2
      exact ⟨by rw [Hr.out, Hi.out]; rfl, Below.refl _ _⟩
  · skip
    have hneg : negB s.data.toList = false := by
      simp [negB, ba_len]; omega
    have hb : Hid (s = bodyB s) := by unfold Hid bodyB; rw [hneg]; rfl
    have Hneg := Lib.hid hneg
    clear hneg
    go_enter Tryd.func68, Tryd.ntmps68
    go_wp2_with fail
    by_cases hlen : 1 ≤ s.size ∧ s.size ≤ 6
    · have hle : (decide ((1 : Int) ≤ ((s.size : Int))) && decide (((s.size : Int)) ≤ 6)) = true := by simp; omega
      refine (l1In_any _ _ _ _).mono ?_
      rw [hle]
      rintro e w' ⟨rfl, rfl⟩
      clear hle
      go_wp2_with fail
      go_loop [5, 6] (fun n i => ∃ k : Nat, k ≤ s.size ∧ i = .int .i64 k ∧ n = .int .i64 (valL (s.data.toList.take k)) ∧ Hid ((s.data.toList.take k).all digB = true)) (fun _ i => s.size - (intOf i).toNat)
      case atStart => exact ⟨0, Nat.zero_le _, rfl, rfl, by simp [Hid]⟩
      case round =>
        obtain ⟨k, hk, rfl, rfl, hall⟩ := hrel
        have hv : valL (s.data.toList.take k) ≤ 999999 := valL_le _ hall.out (by rw [List.length_take]; omega)
        by_cases hlt : k < s.size
        · have hbt := s[k].toNat_lt
          cases hd : digB s[k]
          · have Hr := Lib.hid (readB_dig hb.out k hlt hd)
            have Hi := Lib.hid (readI_no Hr.out)
            by_cases h3 : s[k].toNat < 48
            · clear hd
              go_wp2_with fail
              go_ret2
              exact ⟨by rw [Hr.out, Hi.out]; rfl, Below.refl _ _⟩
            · have h4 : 57 < s[k].toNat := by simp [digB] at hd; omega
              clear hd
              go_wp2_with fail
              go_ret2
              exact ⟨by rw [Hr.out, Hi.out]; rfl, Below.refl _ _⟩
          · have h34 := (digB_iff _).1 hd
            have h3 : ¬ s[k].toNat < 48 := by omega
            have h4 : ¬ 57 < s[k].toNat := by omega
            have h5 : 48 ≤ s[k].toNat := by omega
            have Hs := Lib.hid (valL_step s k hlt)
            have Ha := Lib.hid (show (s.data.toList.take (k + 1)).all digB = true by rw [all_step s k hlt, hall.out, hd]; rfl)
            clear hd h34
            go_wp2_with fail
            go_round
            case rel => exact ⟨k + 1, by omega, by go_num, by rw [Hs.out]; congr 1; omega, Ha.out⟩
            case measure => simp [intOf]; omega
        · have hkk : k = s.size := by omega
          subst hkk
          obtain ⟨m, hm⟩ : ∃ m : Int, m = (valL (s.data.toList.take s.size) : Int) := ⟨_, rfl⟩
          have hm1 : -999999 ≤ m := by omega
          have hm2 : m ≤ 999999 := by omega
          have hre := readB_end hb.out hlen hall.out (m := m) (by rw [Hneg.out]; exact hm)
          have Hm := Lib.hid hm
          clear hm
          by_cases hq : numB m = s
          · have q1 : ((numB m).toList == s.toList) = true := by rw [hq]; exact beq_self_eq_true _
            have hr := hre.1
            rw [decide_eq_true (numB_eq.1 hq)] at hr
            have Hr := Lib.hid hr
            have Hi := Lib.hid (hre.2 hr)
            clear hr hre hq
            go_wp2_with fail
            rw [← Hm.out]
            refine (l1Num_any m (by omega) (by omega) _).mono ?_
            rintro e w1 ⟨rfl, hb1⟩
            go_wp2_with fail
            go_ret2
            exact ⟨by rw [Hr.out, Hi.out, Hm.out]; rfl, hb1⟩
          · have q1 : ((numB m).toList == s.toList) = false := str_ne hq
            have hr := hre.1
            rw [decide_eq_false (fun h => hq (numB_eq.2 h))] at hr
            have Hr := Lib.hid hr
            have Hi := Lib.hid (readI_no hr)
            clear hr hre hq
            go_wp2_with fail
            rw [← Hm.out]
            refine (l1Num_any m (by omega) (by omega) _).mono ?_
            rintro e w1 ⟨rfl, hb1⟩
            go_wp2_with fail
            go_ret2
            exact ⟨by rw [Hr.out, Hi.out]; rfl, hb1⟩
    · have hle : (decide ((1 : Int) ≤ ((s.size : Int))) && decide (((s.size : Int)) ≤ 6)) = false := by simp; omega
      have Hr := Lib.hid (readB_len hb.out hlen)
      have Hi := Lib.hid (readI_no Hr.out)
      refine (l1In_any _ _ _ _).mono ?_
      rw [hle]
      rintro e w' ⟨rfl, rfl⟩
      go_wp2_with fail
      go_ret2
      exact ⟨by rw [Hr.out, Hi.out]; rfl, Below.refl _ _⟩
set_option maxHeartbeats 400000 in
theorem c_spec_ParseInt (s : ByteArray) (w : World) (hs : s.size ≤ 9223372036854775807) :
    Calls Tryd.prog 33 #[.string s] w fun e w' => e = .returned (.tuple #[.int .i64 (readI s.data.toList), .bool (readB s.data.toList)]) ∧ Below w.heap.size w w' := by
  have h := l1Read_any s w hs
  go_enter Tryd.func33, Tryd.ntmps33
  go_wp2_with (go_at_call 68; refine h.mono ?_; rintro e w1 ⟨rfl, hb1⟩)
  go_ret2
  exact ⟨rfl, hb1⟩

end Go.Proofs.YtebomppjcaahpaaDoor
