/- Words: isWord and l2Word (l2_records.go). -/
import Derived.Test.YtlhihdcdbclcbaaDoorA1
import Derived.Test.YtlhihdcdbclcbaaDoorL
import Derived.Test.YtlhihdcdbclcbaaDoorSA
namespace Go.Proofs.YtlhihdcdbclcbaaDoor
set_option linter.unusedVariables false
set_option linter.unusedSimpArgs false
open Go.RowKit Go.Shelf
attribute [local go_sem] Aft.cell

def lowB (b : UInt8) : Bool := decide (97 ≤ b.toNat) && decide (b.toNat ≤ 122)
def wordB (s : ByteArray) : Bool := (decide (1 ≤ (s.size : Int)) && decide ((s.size : Int) ≤ 10)) && s.data.toList.all lowB
def alphabet : List UInt8 := [97, 98, 99, 100, 101, 102, 103, 104, 105, 106, 107, 108, 109, 110, 111, 112, 113, 114, 115, 116, 117, 118, 119, 120, 121, 122]
set_option maxRecDepth 100000 in
theorem low_nat : ∀ n, n < 256 → alphabet.contains (UInt8.ofNat n) = lowB (UInt8.ofNat n) := by decide
theorem low_eq (b : UInt8) : alphabet.contains b = lowB b := by
  have h := low_nat b.toNat b.toNat_lt
  rwa [UInt8.ofNat_toNat] at h
theorem dw_nil {α : Type} (p : α → Bool) (l : List α) : l.dropWhile p = [] ↔ ∀ b ∈ l, p b = true := by
  induction l with
  | nil => simp
  | cons a l ih =>
    rw [List.dropWhile_cons]
    cases h : p a
    · simp [h]
    · simp [h, ih]
theorem dw_head {α : Type} (p : α → Bool) (l : List α) {x : α} {t : List α} (h : l.dropWhile p = x :: t) : p x = false := by
  induction l with
  | nil => simp at h
  | cons a l ih =>
    rw [List.dropWhile_cons] at h
    cases ha : p a
    · rw [if_neg (by rw [ha]; exact Bool.false_ne_true)] at h
      simp at h
      rw [← h.1]; exact ha
    · rw [if_pos ha] at h
      exact ih h
theorem trim_nil (l : List UInt8) : Lib.trimS l alphabet = [] ↔ l.all lowB = true := by
  unfold Lib.trimS Lib.trimLeftS Lib.trimRightS
  rw [dw_nil]
  constructor
  · intro h
    have h2 : l.reverse.dropWhile (alphabet.contains ·) = [] := by
      rcases hr : l.reverse.dropWhile (alphabet.contains ·) with _ | ⟨x, t⟩
      · rfl
      · exfalso
        have h3 := dw_head _ _ hr
        rw [hr] at h
        have h4 := h x (by simp)
        rw [h3] at h4
        cases h4
    rw [dw_nil] at h2
    rw [List.all_eq_true]
    intro b hb
    rw [← low_eq]
    exact h2 b (by simpa using hb)
  · intro h b hb
    rw [List.all_eq_true] at h
    have h2 : b ∈ l := by
      have := (List.dropWhile_sublist (alphabet.contains ·)).subset (List.mem_reverse.1 hb)
      simpa using this
    have := h b h2
    rw [← low_eq] at this
    exact this
theorem wordB_no {s : ByteArray} (k : Nat) (h : k < s.size) (hk : lowB s[k] = false) : wordB s = false := by
  have : s.data.toList.all lowB = false := by
    rw [List.all_eq_false]
    exact ⟨s[k], by show s.data[k] ∈ s.data.toList; simp, by rw [hk]; exact Bool.false_ne_true⟩
  simp [wordB, this]
theorem wordB_end {s : ByteArray} (h : ∀ k (hk : k < s.size), k < s.size → lowB s[k] = true) : wordB s = (decide (1 ≤ (s.size : Int)) && decide ((s.size : Int) ≤ 10)) := by
  have : s.data.toList.all lowB = true := by
    rw [List.all_eq_true]
    intro b hb
    obtain ⟨k, hk, rfl⟩ := List.mem_iff_getElem.1 hb
    exact h k (by simpa using hk) (by simpa using hk)
  simp [wordB, this]

set_option maxHeartbeats 1000000 in
theorem isWord_any (s : ByteArray) (w : World) (hs : s.size ≤ 9223372036854775807) :
    Calls Tryd.prog 54 #[.string s] w fun e w' => e = .returned (.bool (wordB s)) ∧ Below w.heap.size w w' := by
  have hcon := Any.strings_Trim_laid Tryd.lays160 (by kernel_rfl) s ⟨#[97, 98, 99, 100, 101, 102, 103, 104, 105, 106, 107, 108, 109, 110, 111, 112, 113, 114, 115, 116, 117, 118, 119, 120, 121, 122]⟩ w hs (by decide) (ascii_of_all (by decide))
  change Calls Tryd.prog 60 _ _ (fun e w' => e = .returned (.string ⟨(Lib.trimS s.data.toList alphabet).toArray⟩) ∧ Below w.heap.size w w') at hcon
  cases h1 : (decide (1 ≤ (s.size : Int)) && decide ((s.size : Int) ≤ 10))
  · have Hv : Hid (wordB s = false) := by simp [Hid, wordB, h1]
    go_enter Tryd.func54, Tryd.ntmps54
    go_wp2_with (go_at_call 36; refine (within_any _ _ _ _).mono ?_; rw [h1]; rintro e w1 ⟨rfl, rfl⟩)
    go_ret
    exact ⟨ret_bool Hv.out.symm, Below.refl _ _⟩
  · have Hv : Hid (wordB s = s.data.toList.all lowB) := by simp [Hid, wordB, h1]
    have ht := trim_nil s.data.toList
    generalize Lib.trimS s.data.toList alphabet = r at *
    have hr : Hid (r.isEmpty = wordB s) := by
      unfold Hid
      rw [Hv.out]
      cases h2 : s.data.toList.all lowB
      · rcases r with _ | ⟨x, t⟩
        · rw [ht.1 rfl] at h2; cases h2
        · rfl
      · rw [ht.2 h2]; rfl
    clear ht
    go_enter Tryd.func54, Tryd.ntmps54
    go_wp2_with (first | (go_at_call 36; refine (within_any _ _ _ _).mono ?_; rw [h1]; rintro e w1 ⟨rfl, rfl⟩) | (go_at_call 60; refine hcon.mono ?_; rintro e w2 ⟨rfl, hB⟩))
    go_ret
    exact ⟨ret_bool hr.out, hB⟩

set_option maxHeartbeats 1000000 in
theorem l2Word_any (s : ByteArray) (w : World) (hs : s.size ≤ 9223372036854775807) :
    Calls Tryd.prog 52 #[.string s] w fun e w' => e = .returned (.bool (wordB s)) ∧ w = w' := by
  go_enter Tryd.func52, Tryd.ntmps52
  go_wp2_with fail
  go_loop [3] (fun i => ∃ k : Nat, k ≤ s.size ∧ i = .int .i64 k ∧ Hid (∀ j (hj : j < s.size), j < k → lowB s[j] = true)) (fun i => s.size - (intOf i).toNat)
  case atStart => exact ⟨0, Nat.zero_le _, rfl, fun j _ hj => absurd hj (Nat.not_lt_zero _)⟩
  case round =>
    obtain ⟨k, hk, rfl, hall⟩ := hrel
    by_cases hlt : k < s.size
    · have hb := s[k].toNat_lt
      cases hx : lowB s[k]
      · have Hv := Lib.hid (wordB_no k hlt hx)
        by_cases h3 : s[k].toNat < 97
        · clear hx
          go_wp2_with fail
          go_ret
          exact ⟨ret_bool Hv.out.symm, rfl⟩
        · have h4 : 122 < s[k].toNat := by simp [lowB] at hx; omega
          clear hx
          go_wp2_with fail
          go_ret
          exact ⟨ret_bool Hv.out.symm, rfl⟩
      · have Hx := Lib.hid hx
        have h3 : ¬ s[k].toNat < 97 ∧ ¬ 122 < s[k].toNat := by simp [lowB] at hx; omega
        obtain ⟨h3, h4⟩ := h3
        clear hx
        go_wp2_with fail
        go_round
        case rel => exact ⟨k + 1, by omega, by go_num, fun j hj hjk => by rcases Nat.lt_succ_iff_lt_or_eq.1 hjk with h | rfl; exact hall.out j hj h; exact Hx.out⟩
        case measure => simp [intOf]; omega
    · have hkk : k = s.size := by omega
      subst hkk
      have Hv := Lib.hid (wordB_end hall.out)
      go_wp2_with (go_at_call 34; refine (l1In_any _ _ _ _).mono ?_; rintro e w' ⟨rfl, rfl⟩)
      go_ret
      exact ⟨ret_bool Hv.out.symm, rfl⟩

end Go.Proofs.YtlhihdcdbclcbaaDoor
