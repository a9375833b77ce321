/- Contracts: digitsOf, strings.Cut. -/
import Derived.Test.YtopfcfedcmpamaaDoorD7
import Derived.Test.YtopfcfedcmpamaaDoorSB
namespace Go.Proofs.YtopfcfedcmpamaaDoor
set_option linter.unusedVariables false
set_option linter.unusedSimpArgs false
open Go.RowKit Go.Shelf
attribute [local go_sem] Aft.cell

def digitsL : List UInt8 := [48, 49, 50, 51, 52, 53, 54, 55, 56, 57]
set_option maxRecDepth 100000 in
theorem dig_nat : ∀ n, n < 256 → digitsL.contains (UInt8.ofNat n) = digB (UInt8.ofNat n) := by decide
theorem dig_eq (b : UInt8) : digitsL.contains b = digB b := by
  have h := dig_nat b.toNat b.toNat_lt
  rwa [UInt8.ofNat_toNat] at h
theorem dwh_nil {α : Type} (p : α → Bool) (l : List α) : l.dropWhile p = [] ↔ ∀ b ∈ l, p b = true := by
  induction l with
  | nil => simp
  | cons a l ih =>
    rw [List.dropWhile_cons]
    cases h : p a
    · simp [h]
    · simp [h, ih]
theorem dwh_head {α : Type} (p : α → Bool) (l : List α) {x : α} {t : List α} (h : l.dropWhile p = x :: t) : p x = false := by
  induction l with
  | nil => simp at h
  | cons a l ih =>
    rw [List.dropWhile_cons] at h
    cases ha : p a
    · rw [if_neg (by rw [ha]; exact Bool.false_ne_true)] at h
      simp at h
      rw [← h.1]; exact ha
    · rw [if_pos ha] at h
      exact ih h
theorem trimS_nil (l c : List UInt8) : Lib.trimS l c = [] ↔ ∀ b ∈ l, c.contains b = true := by
  unfold Lib.trimS Lib.trimLeftS Lib.trimRightS
  rw [dwh_nil]
  constructor
  · intro h
    have h2 : l.reverse.dropWhile (c.contains ·) = [] := by
      rcases hr : l.reverse.dropWhile (c.contains ·) with _ | ⟨x, t⟩
      · rfl
      · exfalso
        have h3 := dwh_head _ _ hr
        rw [hr] at h
        have h4 := h x (by simp)
        rw [h3] at h4
        cases h4
    rw [dwh_nil] at h2
    intro b hb
    exact h2 b (by simpa using hb)
  · intro h b hb
    have h2 : b ∈ l := by
      have := (List.dropWhile_sublist (c.contains ·)).subset (List.mem_reverse.1 hb)
      simpa using this
    exact h b h2
theorem trim_dig (l : List UInt8) : Lib.trimS l digitsL = [] ↔ l.all digB = true := by
  rw [trimS_nil, List.all_eq_true]
  exact forall_congr' fun b => by rw [dig_eq]

set_option maxHeartbeats 2000000 in
theorem digitsOf_any (s : ByteArray) (w : World) (hs : s.size ≤ 9223372036854775807) :
    Calls Tryd.prog 25 #[.string s] w fun e w' => e = .returned (.int .i64 (digV s)) ∧ Below w.heap.size w w' := by
  by_cases h0 : s.size = 0
  · have hz : s = ⟨#[]⟩ := ba_ext (List.length_eq_zero_iff.1 (by rw [ba_len]; exact h0))
    subst hz
    go_enter Tryd.func25, Tryd.ntmps25
    go_wp2_with fail
    go_ret
    exact ⟨rfl, Below.refl _ _⟩
  · have hne : s.toList.isEmpty = false := by
      rw [ByteArray.toList_eq, List.isEmpty_eq_false_iff]
      intro hc
      exact h0 (by rw [← ba_len, hc]; rfl)
    by_cases h7 : 7 < s.size
    · have Hv : Hid (digV s = -1) := by
        unfold Hid digV
        rw [if_neg (by simp; omega)]
      go_enter Tryd.func25, Tryd.ntmps25
      go_wp2_with fail
      all_goals (go_ret; exact ⟨ret_int Hv.out.symm, Below.refl _ _⟩)
    · have hcon := Any.strings_Trim_laid Tryd.lays160 (by kernel_rfl) s ⟨#[48, 49, 50, 51, 52, 53, 54, 55, 56, 57]⟩ w hs (by decide) (ascii_of_all (by decide))
      change Calls Tryd.prog 46 _ _ (fun e w' => e = .returned (.string ⟨(Lib.trimS s.data.toList digitsL).toArray⟩) ∧ Below w.heap.size w w') at hcon
      have ht := trim_dig s.data.toList
      generalize Lib.trimS s.data.toList digitsL = r at *
      cases hd : s.data.toList.all digB
      · have hr : r.isEmpty = false := by
          rw [List.isEmpty_eq_false_iff]
          intro hc
          rw [ht.1 hc] at hd
          cases hd
        have Hv : Hid (digV s = -1) := by
          unfold Hid digV
          rw [if_neg (by simp [hd])]
        clear ht hd
        go_enter Tryd.func25, Tryd.ntmps25
        go_wp2_with (go_at_call 46; refine hcon.mono ?_; rintro e w2 ⟨rfl, hB⟩)
        go_ret
        exact ⟨ret_int Hv.out.symm, hB⟩
      · obtain rfl := ht.2 hd
        have Hv : Hid (digV s = (valL s.data.toList : Int)) := by
          unfold Hid digV
          rw [if_pos (by simp [hd]; omega)]
        have Hd := Lib.hid hd
        clear ht hd
        go_enter Tryd.func25, Tryd.ntmps25
        go_wp2_with (go_at_call 46; refine hcon.mono ?_; rintro e w2 ⟨rfl, hB⟩)
        go_loop [3, 19] (fun n i => ∃ k : Nat, k ≤ s.size ∧ i = .int .i64 k ∧ n = .int .i64 (valL (s.data.toList.take k))) (fun _ i => s.size - (intOf i).toNat)
        case atStart => exact ⟨0, Nat.zero_le _, rfl, rfl⟩
        case round =>
          obtain ⟨k, hk, rfl, rfl⟩ := hrel
          have hv : valL (s.data.toList.take k) < 10000000 := by
            have h1 := valL_lt (s.data.toList.take k) (by rw [List.all_eq_true]; intro b hb; exact List.all_eq_true.1 Hd.out b (List.mem_of_mem_take hb))
            refine Nat.lt_of_lt_of_le h1 (Nat.le_trans (Nat.pow_le_pow_right (by decide) (show _ ≤ 7 by rw [List.length_take]; omega)) (by decide))
          by_cases hlt : k < s.size
          · have hbt := s[k].toNat_lt
            have h34 := (digB_iff _).1 (List.all_eq_true.1 Hd.out s[k] (by show s.data[k] ∈ s.data.toList; simp))
            have h5 : 48 ≤ s[k].toNat := h34.1
            have h6 : s[k].toNat ≤ 57 := h34.2
            have Hs := Lib.hid (valL_step s k hlt)
            clear h34
            go_wp2_with fail
            go_round
            case rel => exact ⟨k + 1, by omega, by go_num, by rw [Hs.out]; go_num⟩
            case measure => simp [intOf]; omega
          · have hkk : k = s.size := by omega
            subst hkk
            go_wp2_with fail
            go_ret
            refine ⟨ret_int ?_, hB⟩
            rw [Hv.out, ← ba_len, List.take_length]
end Go.Proofs.YtopfcfedcmpamaaDoor
