/- Contract: the reading of a number by the reference. -/
import Derived.Test.YtopfcfedcmpamaaDoorW1p
namespace Go.Proofs.YtopfcfedcmpamaaDoor
set_option linter.unusedVariables false
set_option linter.unusedSimpArgs false
open Go.RowKit Go.Shelf
attribute [local go_sem] Aft.cell

set_option maxHeartbeats 4000000 in
theorem l1Read_any (s : ByteArray) (w : World) (hs : s.size ≤ 9223372036854775807) :
    Calls Tryd.prog 21 #[.string s] w fun e w' => e = .returned (.tuple #[.int .i64 (readI s.data.toList), .bool (readB s.data.toList)]) ∧ Below w.heap.size w w' := by
  rcases (show (∃ h : 1 < s.size, ((s[0].toNat : Int) == 45) = false) ∨ (∃ h : 1 < s.size, ((s[0].toNat : Int) == 45) = true) ∨ ¬ 1 < s.size by
    by_cases h1 : 1 < s.size
    · cases h2 : ((s[0].toNat : Int) == 45)
      · exact .inl ⟨h1, h2⟩
      · exact .inr (.inl ⟨h1, h2⟩)
    · exact .inr (.inr h1)) with ⟨h1, h2⟩ | ⟨h1, h2⟩ | h1
  · skip
    have hneg : negB s.data.toList = false := by
      rcases hc : negB s.data.toList
      · rfl
      · exfalso
        simp [negB] at hc
        have h3 := hc.2
        rw [← get_data (by omega : 0 < s.size)] at h2
        rcases hl : s.data.toList with _ | ⟨a, r⟩
        · rw [hl] at h3; simp at h3
        · simp only [hl] at h3 h2
          simp at h3 h2
          subst h3
          simp at h2
    have hb : Hid (s = bodyB s) := by unfold Hid bodyB; rw [hneg]; rfl
    have Hneg := Lib.hid hneg
    clear hneg
    go_enter Tryd.func21, Tryd.ntmps21
    go_wp2_with fail
    by_cases hlen : 1 ≤ s.size ∧ s.size ≤ 6
    · have hle : (decide ((1 : Int) ≤ ((s.size : Int))) && decide (((s.size : Int)) ≤ 6)) = true := by simp; omega
      refine (l1In_any _ _ _ _).mono ?_
      rw [hle]
      rintro e w' ⟨rfl, rfl⟩
      clear hle
      go_wp2_with fail
      go_loop [5, 6] (fun n i => ∃ k : Nat, k ≤ s.size ∧ i = .int .i64 k ∧ n = .int .i64 (valL (s.data.toList.take k)) ∧ Hid ((s.data.toList.take k).all digB = true)) (fun _ i => s.size - (intOf i).toNat)
      case atStart => exact ⟨0, Nat.zero_le _, rfl, rfl, by simp [Hid]⟩
      case round =>
        obtain ⟨k, hk, rfl, rfl, hall⟩ := hrel
        have hv : valL (s.data.toList.take k) ≤ 999999 := valL_le _ hall.out (by rw [List.length_take]; omega)
        by_cases hlt : k < s.size
        · have hbt := s[k].toNat_lt
          cases hd : digB s[k]
          · have Hr := Lib.hid (readB_dig hb.out k hlt hd)
            have Hi := Lib.hid (readI_no Hr.out)
            by_cases h3 : s[k].toNat < 48
            · clear hd
              go_wp2_with fail
              go_ret2
              exact ⟨by rw [Hr.out, Hi.out]; rfl, Below.refl _ _⟩
            · have h4 : 57 < s[k].toNat := by simp [digB] at hd; omega
              clear hd
              go_wp2_with fail
              go_ret2
              exact ⟨by rw [Hr.out, Hi.out]; rfl, Below.refl _ _⟩
          · have h34 := (digB_iff _).1 hd
            have h3 : ¬ s[k].toNat < 48 := by omega
            have h4 : ¬ 57 < s[k].toNat := by omega
            have h5 : 48 ≤ s[k].toNat := by omega
            have Hs := Lib.hid (valL_step s k hlt)
            have Ha := Lib.hid (show (s.data.toList.take (k + 1)).all digB = true by rw [all_step s k hlt, hall.out, hd]; rfl)
            clear hd h34
            go_wp2_with fail
            go_round
            case rel => exact ⟨k + 1, by omega, by go_num, by rw [Hs.out]; congr 1; omega, Ha.out⟩
            case measure => simp [intOf]; omega
        · have hkk : k = s.size := by omega
          subst hkk
          obtain ⟨m, hm⟩ : ∃ m : Int, m = (valL (s.data.toList.take s.size) : Int) := ⟨_, rfl⟩
          have hm1 : -999999 ≤ m := by omega
          have hm2 : m ≤ 999999 := by omega
          have hre := readB_end hb.out hlen hall.out (m := m) (by rw [Hneg.out]; exact hm)
          have Hm := Lib.hid hm
          clear hm
          by_cases hq : numB m = s
          · have q1 : ((numB m).toList == s.toList) = true := by rw [hq]; exact beq_self_eq_true _
            have hr := hre.1
            rw [decide_eq_true (numB_eq.1 hq)] at hr
            have Hr := Lib.hid hr
            have Hi := Lib.hid (hre.2 hr)
            clear hr hre hq
            go_wp2_with fail
            rw [← Hm.out]
            refine (l1Num_any m (by omega) (by omega) _).mono ?_
            rintro e w1 ⟨rfl, hb1⟩
            go_wp2_with fail
            go_ret2
            exact ⟨by rw [Hr.out, Hi.out, Hm.out]; rfl, hb1⟩
          · have q1 : ((numB m).toList == s.toList) = false := str_ne hq
            have hr := hre.1
            rw [decide_eq_false (fun h => hq (numB_eq.2 h))] at hr
            have Hr := Lib.hid hr
            have Hi := Lib.hid (readI_no hr)
            clear hr hre hq
            go_wp2_with fail
            rw [← Hm.out]
            refine (l1Num_any m (by omega) (by omega) _).mono ?_
            rintro e w1 ⟨rfl, hb1⟩
            go_wp2_with fail
            go_ret2
            exact ⟨by rw [Hr.out, Hi.out]; rfl, hb1⟩
    · have hle : (decide ((1 : Int) ≤ ((s.size : Int))) && decide (((s.size : Int)) ≤ 6)) = false := by simp; omega
      have Hr := Lib.hid (readB_len hb.out hlen)
      have Hi := Lib.hid (readI_no Hr.out)
      refine (l1In_any _ _ _ _).mono ?_
      rw [hle]
      rintro e w' ⟨rfl, rfl⟩
      go_wp2_with fail
      go_ret2
      exact ⟨by rw [Hr.out, Hi.out]; rfl, Below.refl _ _⟩
  · skip
    have hneg : negB s.data.toList = true := by
      rw [← get_data (by omega : 0 < s.size)] at h2
      rcases hl : s.data.toList with _ | ⟨a, r⟩
      · have := ba_len s; rw [hl] at this; simp at this; omega
      · simp only [hl] at h2
        simp at h2
        have hlen : r.length + 1 = s.size := by rw [← ba_len s, hl]; simp
        have ha : a = 45 := by
          apply UInt8.toNat_inj.1
          have h3 : ((a.toNat : Nat) : Int) = 45 := h2
          show a.toNat = 45
          omega
        simp [negB, ha]; omega
    have hb : Hid (s.extract 1 s.size = bodyB s) := by unfold Hid bodyB; rw [hneg]; rfl
    have Hneg := Lib.hid hneg
    clear hneg
    go_enter Tryd.func21, Tryd.ntmps21
    go_wp2_with fail
    have ht1 : (s.extract 1 s.size).size = s.size - 1 := by rw [ByteArray.size_extract]; omega
    generalize s.extract 1 s.size = t at *
    have ht2 : t.size < s.size := by omega
    have ht3 : t.size ≤ 9223372036854775807 := by omega
    have ht4 : t.size ≤ s.size - 1 := by omega
    have ht5 : s.size - 1 ≤ t.size := by omega
    clear ht1
    by_cases hlen : 1 ≤ t.size ∧ t.size ≤ 6
    · have hle : (decide ((1 : Int) ≤ (((s.size - 1 : Nat) : Int))) && decide ((((s.size - 1 : Nat) : Int)) ≤ 6)) = true := by simp; omega
      refine (l1In_any _ _ _ _).mono ?_
      rw [hle]
      rintro e w' ⟨rfl, rfl⟩
      clear hle
      go_wp2_with fail
      go_loop [5, 6] (fun n i => ∃ k : Nat, k ≤ t.size ∧ i = .int .i64 k ∧ n = .int .i64 (valL (t.data.toList.take k)) ∧ Hid ((t.data.toList.take k).all digB = true)) (fun _ i => t.size - (intOf i).toNat)
      case atStart => exact ⟨0, Nat.zero_le _, rfl, rfl, by simp [Hid]⟩
      case round =>
        obtain ⟨k, hk, rfl, rfl, hall⟩ := hrel
        have hv : valL (t.data.toList.take k) ≤ 999999 := valL_le _ hall.out (by rw [List.length_take]; omega)
        by_cases hlt : k < t.size
        · have hbt := t[k].toNat_lt
          cases hd : digB t[k]
          · have Hr := Lib.hid (readB_dig hb.out k hlt hd)
            have Hi := Lib.hid (readI_no Hr.out)
            by_cases h3 : t[k].toNat < 48
            · clear hd
              go_wp2_with fail
              go_ret2
              exact ⟨by rw [Hr.out, Hi.out]; rfl, Below.refl _ _⟩
            · have h4 : 57 < t[k].toNat := by simp [digB] at hd; omega
              clear hd
              go_wp2_with fail
              go_ret2
              exact ⟨by rw [Hr.out, Hi.out]; rfl, Below.refl _ _⟩
          · have h34 := (digB_iff _).1 hd
            have h3 : ¬ t[k].toNat < 48 := by omega
            have h4 : ¬ 57 < t[k].toNat := by omega
            have h5 : 48 ≤ t[k].toNat := by omega
            have Hs := Lib.hid (valL_step t k hlt)
            have Ha := Lib.hid (show (t.data.toList.take (k + 1)).all digB = true by rw [all_step t k hlt, hall.out, hd]; rfl)
            clear hd h34
            go_wp2_with fail
            go_round
            case rel => exact ⟨k + 1, by omega, by go_num, by rw [Hs.out]; congr 1; omega, Ha.out⟩
            case measure => simp [intOf]; omega
        · have hkk : k = t.size := by omega
          subst hkk
          obtain ⟨m, hm⟩ : ∃ m : Int, m = -(valL (t.data.toList.take t.size) : Int) := ⟨_, rfl⟩
          have hm1 : -999999 ≤ m := by omega
          have hm2 : m ≤ 999999 := by omega
          have hre := readB_end hb.out hlen hall.out (m := m) (by rw [Hneg.out]; exact hm)
          have Hm := Lib.hid hm
          clear hm
          by_cases hq : numB m = s
          · have q1 : ((numB m).toList == s.toList) = true := by rw [hq]; exact beq_self_eq_true _
            have hr := hre.1
            rw [decide_eq_true (numB_eq.1 hq)] at hr
            have Hr := Lib.hid hr
            have Hi := Lib.hid (hre.2 hr)
            clear hr hre hq
            go_wp2_with fail
            rw [← Hm.out]
            refine (l1Num_any m (by omega) (by omega) _).mono ?_
            rintro e w1 ⟨rfl, hb1⟩
            go_wp2_with fail
            go_ret2
            exact ⟨by rw [Hr.out, Hi.out, Hm.out]; rfl, hb1⟩
          · have q1 : ((numB m).toList == s.toList) = false := str_ne hq
            have hr := hre.1
            rw [decide_eq_false (fun h => hq (numB_eq.2 h))] at hr
            have Hr := Lib.hid hr
            have Hi := Lib.hid (readI_no hr)
            clear hr hre hq
            go_wp2_with fail
            rw [← Hm.out]
            refine (l1Num_any m (by omega) (by omega) _).mono ?_
            rintro e w1 ⟨rfl, hb1⟩
            go_wp2_with fail
            go_ret2
            exact ⟨by rw [Hr.out, Hi.out]; rfl, hb1⟩
    · have hle : (decide ((1 : Int) ≤ (((s.size - 1 : Nat) : Int))) && decide ((((s.size - 1 : Nat) : Int)) ≤ 6)) = false := by simp; omega
      have Hr := Lib.hid (readB_len hb.out hlen)
      have Hi := Lib.hid (readI_no Hr.out)
      refine (l1In_any _ _ _ _).mono ?_
      rw [hle]
      rintro e w' ⟨rfl, rfl⟩
      go_wp2_with fail
      go_ret2
      exact ⟨by rw [Hr.out, Hi.out]; rfl, Below.refl _ _⟩
  · skip
    have hneg : negB s.data.toList = false := by
      simp [negB, ba_len]; omega
    have hb : Hid (s = bodyB s) := by unfold Hid bodyB; rw [hneg]; rfl
    have Hneg := Lib.hid hneg
    clear hneg
    go_enter Tryd.func21, Tryd.ntmps21
    go_wp2_with fail
    by_cases hlen : 1 ≤ s.size ∧ s.size ≤ 6
    · have hle : (decide ((1 : Int) ≤ ((s.size : Int))) && decide (((s.size : Int)) ≤ 6)) = true := by simp; omega
      refine (l1In_any _ _ _ _).mono ?_
      rw [hle]
      rintro e w' ⟨rfl, rfl⟩
      clear hle
      go_wp2_with fail
      go_loop [5, 6] (fun n i => ∃ k : Nat, k ≤ s.size ∧ i = .int .i64 k ∧ n = .int .i64 (valL (s.data.toList.take k)) ∧ Hid ((s.data.toList.take k).all digB = true)) (fun _ i => s.size - (intOf i).toNat)
      case atStart => exact ⟨0, Nat.zero_le _, rfl, rfl, by simp [Hid]⟩
      case round =>
        obtain ⟨k, hk, rfl, rfl, hall⟩ := hrel
        have hv : valL (s.data.toList.take k) ≤ 999999 := valL_le _ hall.out (by rw [List.length_take]; omega)
        by_cases hlt : k < s.size
        · have hbt := s[k].toNat_lt
          cases hd : digB s[k]
          · have Hr := Lib.hid (readB_dig hb.out k hlt hd)
            have Hi := Lib.hid (readI_no Hr.out)
            by_cases h3 : s[k].toNat < 48
            · clear hd
              go_wp2_with fail
              go_ret2
              exact ⟨by rw [Hr.out, Hi.out]; rfl, Below.refl _ _⟩
            · have h4 : 57 < s[k].toNat := by simp [digB] at hd; omega
              clear hd
              go_wp2_with fail
              go_ret2
              exact ⟨by rw [Hr.out, Hi.out]; rfl, Below.refl _ _⟩
          · have h34 := (digB_iff _).1 hd
            have h3 : ¬ s[k].toNat < 48 := by omega
            have h4 : ¬ 57 < s[k].toNat := by omega
            have h5 : 48 ≤ s[k].toNat := by omega
            have Hs := Lib.hid (valL_step s k hlt)
            have Ha := Lib.hid (show (s.data.toList.take (k + 1)).all digB = true by rw [all_step s k hlt, hall.out, hd]; rfl)
            clear hd h34
            go_wp2_with fail
            go_round
            case rel => exact ⟨k + 1, by omega, by go_num, by rw [Hs.out]; congr 1; omega, Ha.out⟩
            case measure => simp [intOf]; omega
        · have hkk : k = s.size := by omega
          subst hkk
          obtain ⟨m, hm⟩ : ∃ m : Int, m = (valL (s.data.toList.take s.size) : Int) := ⟨_, rfl⟩
          have hm1 : -999999 ≤ m := by omega
          have hm2 : m ≤ 999999 := by omega
          have hre := readB_end hb.out hlen hall.out (m := m) (by rw [Hneg.out]; exact hm)
          have Hm := Lib.hid hm
          clear hm
          by_cases hq : numB m = s
          · have q1 : ((numB m).toList == s.toList) = true := by rw [hq]; exact beq_self_eq_true _
            have hr := hre.1
            rw [decide_eq_true (numB_eq.1 hq)] at hr
            have Hr := Lib.hid hr
            have Hi := Lib.hid (hre.2 hr)
            clear hr hre hq
            go_wp2_with fail
            rw [← Hm.out]
            refine (l1Num_any m (by omega) (by omega) _).mono ?_
            rintro e w1 ⟨rfl, hb1⟩
            go_wp2_with fail
            go_ret2
            exact ⟨by rw [Hr.out, Hi.out, Hm.out]; rfl, hb1⟩
          · have q1 : ((numB m).toList == s.toList) = false := str_ne hq
            have hr := hre.1
            rw [decide_eq_false (fun h => hq (numB_eq.2 h))] at hr
            have Hr := Lib.hid hr
            have Hi := Lib.hid (readI_no hr)
            clear hr hre hq
            go_wp2_with fail
            rw [← Hm.out]
            refine (l1Num_any m (by omega) (by omega) _).mono ?_
            rintro e w1 ⟨rfl, hb1⟩
            go_wp2_with fail
            go_ret2
            exact ⟨by rw [Hr.out, Hi.out]; rfl, hb1⟩
    · have hle : (decide ((1 : Int) ≤ ((s.size : Int))) && decide (((s.size : Int)) ≤ 6)) = false := by simp; omega
      have Hr := Lib.hid (readB_len hb.out hlen)
      have Hi := Lib.hid (readI_no Hr.out)
      refine (l1In_any _ _ _ _).mono ?_
      rw [hle]
      rintro e w' ⟨rfl, rfl⟩
      go_wp2_with fail
      go_ret2
      exact ⟨by rw [Hr.out, Hi.out]; rfl, Below.refl _ _⟩

end Go.Proofs.YtopfcfedcmpamaaDoor
