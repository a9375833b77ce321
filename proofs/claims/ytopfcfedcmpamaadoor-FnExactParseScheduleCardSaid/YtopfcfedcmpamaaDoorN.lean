/- Plain words on texts: the decimal text of a number and what it reads as; the parts of a text between a byte. -/
import Derived.Lib.ItoaNum
import Derived.Lib.ItoaLen
import Derived.Lib.AtoiTie
import Derived.Lib.AtoiAllCases
import Derived.Lib.Split
import Derived.Lib.SplitLaws
import Derived.Lib.CountLaws
import Derived.Lib.CutLaws
import Derived.Lib.IndexMore
namespace Go.Proofs.YtopfcfedcmpamaaDoor
set_option linter.unusedVariables false
set_option linter.unusedSimpArgs false

/-- The text of a number. -/
def numB (n : Int) : ByteArray := ⟨(Lib.itoa n).toArray⟩
theorem numB_data (n : Int) : (numB n).data.toList = Lib.itoa n := by simp [numB]
theorem numB_size (n : Int) : (numB n).size = (Lib.itoa n).length := by
  show (Lib.itoa n).toArray.size = _
  simp
theorem ba_ext {a b : ByteArray} (h : a.data.toList = b.data.toList) : a = b := by
  rcases a with ⟨⟨a⟩⟩
  rcases b with ⟨⟨b⟩⟩
  simp at h
  rw [h]
theorem ba_mk (a : ByteArray) : (⟨a.data.toList.toArray⟩ : ByteArray) = a := ba_ext (by simp)
theorem ba_len (a : ByteArray) : a.data.toList.length = a.size := Array.length_toList

/-- What a row of digits spells. -/
def valL (l : List UInt8) : Nat := l.foldl (fun a c => 10 * a + (c.toNat - 48)) 0
theorem valL_snoc (l : List UInt8) (c : UInt8) : valL (l ++ [c]) = 10 * valL l + (c.toNat - 48) := by simp [valL, List.foldl_append]
theorem valL_nil : valL [] = 0 := rfl
def digB (c : UInt8) : Bool := decide (48 ≤ c.toNat) && decide (c.toNat ≤ 57)
theorem digB_iff (c : UInt8) : digB c = true ↔ 48 ≤ c.toNat ∧ c.toNat ≤ 57 := by simp [digB]
theorem valL_fold : ∀ (l : List UInt8) (acc : Nat), l.all digB = true → l.foldl (fun a c => 10 * a + (c.toNat - 48)) acc < (acc + 1) * 10 ^ l.length
  | [], acc, _ => by simp
  | c :: r, acc, h => by
    rw [List.all_cons, Bool.and_eq_true] at h
    have h1 := (digB_iff c).1 h.1
    have h2 := valL_fold r (10 * acc + (c.toNat - 48)) h.2
    rw [List.foldl_cons, List.length_cons, Nat.pow_succ]
    have h3 : (10 * acc + (c.toNat - 48) + 1) * 10 ^ r.length ≤ (10 * (acc + 1)) * 10 ^ r.length := Nat.mul_le_mul_right _ (by omega)
    have h4 : (10 * (acc + 1)) * 10 ^ r.length = (acc + 1) * (10 ^ r.length * 10) := by rw [Nat.mul_comm 10 (acc + 1), Nat.mul_assoc, Nat.mul_comm 10]
    omega
theorem valL_lt (l : List UInt8) (h : l.all digB = true) : valL l < 10 ^ l.length := by
  have := valL_fold l 0 h
  simpa [valL] using this
theorem valL_le (l : List UInt8) (h : l.all digB = true) (h6 : l.length ≤ 6) : valL l ≤ 999999 := by
  have h1 := valL_lt l h
  have h2 : 10 ^ l.length ≤ 10 ^ 6 := Nat.pow_le_pow_right (by decide) h6
  omega

theorem dec_snoc {u : Nat} (h : ¬ u < 10) : Lib.decDigits u = Lib.decDigits (u / 10) ++ [UInt8.ofNat (48 + u % 10)] := by rw [Lib.decDigits, dif_neg h]
theorem ofNat_digit {d : Nat} (h : d < 10) : (UInt8.ofNat (48 + d)).toNat = 48 + d := by
  rw [UInt8.toNat_ofNat']; omega
theorem dec_all (u : Nat) : (Lib.decDigits u).all digB = true := by
  induction u using Nat.strongRecOn with
  | _ u ih =>
    by_cases h : u < 10
    · rw [Lib.decDigits_one h]
      simp only [List.all_cons, List.all_nil, Bool.and_true]
      rw [digB_iff, ofNat_digit h]; omega
    · rw [dec_snoc h, List.all_append, ih (u / 10) (by omega)]
      simp only [List.all_cons, List.all_nil, Bool.and_true, Bool.true_and]
      rw [digB_iff, ofNat_digit (by omega)]; omega
theorem dec_val (u : Nat) : valL (Lib.decDigits u) = u := by
  induction u using Nat.strongRecOn with
  | _ u ih =>
    by_cases h : u < 10
    · rw [Lib.decDigits_one h]
      have := valL_snoc [] (UInt8.ofNat (48 + u))
      rw [List.nil_append] at this
      rw [this, ofNat_digit h, valL_nil]; omega
    · rw [dec_snoc h, valL_snoc, ih (u / 10) (by omega), ofNat_digit (by omega)]; omega
theorem dec_len_pos (u : Nat) : 1 ≤ (Lib.decDigits u).length := by
  by_cases h : u < 10
  · rw [Lib.decDigits_one h]; simp
  · rw [dec_snoc h]; simp
theorem dec_len_le : ∀ (k u : Nat), u < 10 ^ (k + 1) → (Lib.decDigits u).length ≤ k + 1
  | 0, u, h => by rw [Lib.decDigits_one (by simpa using h)]; simp
  | k + 1, u, h => by
    by_cases h10 : u < 10
    · rw [Lib.decDigits_one h10]; simp
    · rw [dec_snoc h10, List.length_append, List.length_singleton]
      have := dec_len_le k (u / 10) (by rw [Nat.pow_succ] at h; omega)
      omega
theorem dec_len6 {u : Nat} (h : u ≤ 999999) : (Lib.decDigits u).length ≤ 6 := dec_len_le 5 u (by omega)

/-- A text's sign and what stands behind it. -/
def negB (l : List UInt8) : Bool := decide (1 < l.length) && decide (l.head? = some 45)
def bodyL (l : List UInt8) : List UInt8 := if negB l then l.drop 1 else l
def svalL (l : List UInt8) : Int := if negB l then -(valL (bodyL l) : Int) else valL (bodyL l)
/-- A text is the text of a number of at most 6 digits. -/
def readB (l : List UInt8) : Bool := decide (1 ≤ (bodyL l).length) && decide ((bodyL l).length ≤ 6) && (bodyL l).all digB && decide (Lib.itoa (svalL l) = l)
def readI (l : List UInt8) : Int := if readB l then svalL l else 0

theorem head_dec (u : Nat) : (Lib.decDigits u).head? ≠ some 45 := by
  intro h
  have h1 := dec_all u
  rcases hd : Lib.decDigits u with _ | ⟨c, r⟩
  · rw [hd] at h; simp at h
  · rw [hd] at h h1
    simp at h
    subst h
    simp [digB] at h1
theorem itoa_shape {m : Int} {l : List UInt8} (h : Lib.itoa m = l) (h1 : -999999 ≤ m) (h2 : m ≤ 999999) :
    1 ≤ (bodyL l).length ∧ (bodyL l).length ≤ 6 ∧ (bodyL l).all digB = true ∧ svalL l = m := by
  by_cases hm : m < 0
  · have h3 : Lib.itoa m = 45 :: Lib.decDigits m.natAbs := by unfold Lib.itoa; rw [if_pos hm]
    rw [h3] at h
    have hn : negB l = true := by
      rw [← h]
      have := dec_len_pos m.natAbs
      simp [negB]
      omega
    have hb : bodyL l = Lib.decDigits m.natAbs := by rw [bodyL, if_pos hn, ← h]; rfl
    refine ⟨by rw [hb]; exact dec_len_pos _, by rw [hb]; exact dec_len6 (by omega), by rw [hb]; exact dec_all _, ?_⟩
    rw [svalL, if_pos hn, hb, dec_val]; omega
  · have h3 : Lib.itoa m = Lib.decDigits m.toNat := by unfold Lib.itoa; rw [if_neg hm]
    rw [h3] at h
    have hn : ¬ negB l = true := by
      rw [← h]
      intro hc
      simp [negB] at hc
      exact head_dec _ hc.2
    have hb : bodyL l = Lib.decDigits m.toNat := by rw [bodyL, if_neg hn, ← h]
    refine ⟨by rw [hb]; exact dec_len_pos _, by rw [hb]; exact dec_len6 (by omega), by rw [hb]; exact dec_all _, ?_⟩
    rw [svalL, if_neg hn, hb, dec_val]; omega
theorem readB_itoa {m : Int} {l : List UInt8} (h : Lib.itoa m = l) (h1 : -999999 ≤ m) (h2 : m ≤ 999999) : readB l = true ∧ readI l = m := by
  obtain ⟨a, b, c, d⟩ := itoa_shape h h1 h2
  have hr : readB l = true := by simp [readB, a, b, c, d, h]
  exact ⟨hr, by rw [readI, if_pos hr, d]⟩
theorem readB_spec {l : List UInt8} (h : readB l = true) : 1 ≤ (bodyL l).length ∧ (bodyL l).length ≤ 6 ∧ (bodyL l).all digB = true ∧ Lib.itoa (readI l) = l ∧ -999999 ≤ readI l ∧ readI l ≤ 999999 := by
  have hi : readI l = svalL l := by rw [readI, if_pos h]
  have hs := h
  simp only [readB, Bool.and_eq_true, decide_eq_true_eq] at hs
  obtain ⟨⟨⟨a, b⟩, c⟩, d⟩ := hs
  have hv := valL_le _ c b
  refine ⟨a, b, c, by rw [hi]; exact d, ?_, ?_⟩
  all_goals
    rw [hi, svalL]
    split <;> omega
theorem readI_range (l : List UInt8) : -999999 ≤ readI l ∧ readI l ≤ 999999 := by
  by_cases h : readB l = true
  · exact (readB_spec h).2.2.2.2
  · rw [readI, if_neg h]; omega
theorem itoa_inj {a b : Int} (ha : -999999 ≤ a) (ha' : a ≤ 999999) (hb : -999999 ≤ b) (hb' : b ≤ 999999) (h : Lib.itoa a = Lib.itoa b) : a = b := by
  have h1 := (itoa_shape rfl ha ha').2.2.2
  have h2 := (itoa_shape h.symm hb hb').2.2.2
  rw [← h1, h2]

/-! Atoi at such a text. -/
theorem decFrom_val : ∀ (l : List UInt8) (acc : Nat), l.all digB = true → Lib.decFrom acc l = some (l.foldl (fun a c => 10 * a + (c.toNat - 48)) acc)
  | [], _, _ => rfl
  | c :: r, acc, h => by
    rw [List.all_cons, Bool.and_eq_true] at h
    have h1 := (digB_iff c).1 h.1
    simp only [Lib.decFrom, Lib.digitVal, if_pos h1, List.foldl_cons]
    rw [decFrom_val r _ h.2, Nat.mul_comm]
theorem decNat_val {l : List UInt8} (h : l.all digB = true) (h0 : 1 ≤ l.length) : Lib.decNat l = some (valL l) := by
  have he : l.isEmpty = false := by cases l <;> simp_all
  rw [Lib.decNat, he]
  exact decFrom_val l 0 h
theorem atoi_itoa {m : Int} (h1 : -999999 ≤ m) (h2 : m ≤ 999999) : Lib.atoiAll (Lib.itoa m) = .ok m := by
  have hl : (Lib.itoa m).length ≤ 18 := by
    unfold Lib.itoa
    split
    · have := dec_len6 (u := m.natAbs) (by omega)
      simp only [List.length_cons]; omega
    · have := dec_len6 (u := m.toNat) (by omega)
      omega
  rw [Lib.atoiAll_short _ hl]
  by_cases hm : m < 0
  · have h3 : Lib.itoa m = 45 :: Lib.decDigits m.natAbs := by unfold Lib.itoa; rw [if_pos hm]
    rw [h3]
    simp only [Lib.atoi, beq_self_eq_true, if_true]
    rw [decNat_val (dec_all _) (dec_len_pos _), dec_val]
    simp only [Option.map_some, Lib.NumEnd.ofOption]
    congr 1; omega
  · have h3 : Lib.itoa m = Lib.decDigits m.toNat := by unfold Lib.itoa; rw [if_neg hm]
    rw [h3]
    rcases hd : Lib.decDigits m.toNat with _ | ⟨c, r⟩
    · have := dec_len_pos m.toNat; rw [hd] at this; simp at this
    · have hall := dec_all m.toNat
      rw [hd, List.all_cons, Bool.and_eq_true] at hall
      have hc := (digB_iff c).1 hall.1
      have e1 : (c == 45) = false := by rw [beq_eq_false_iff_ne]; rintro rfl; simp at hc
      have e2 : (c == 43) = false := by rw [beq_eq_false_iff_ne]; rintro rfl; simp at hc
      simp only [Lib.atoi, e1, e2]
      rw [← hd, decNat_val (dec_all _) (dec_len_pos _), dec_val]
      simp only [Option.map_some, Lib.NumEnd.ofOption]
      simp <;> omega

/-! Parts between a byte. -/
theorem index_one (l : List UInt8) (b : UInt8) : Lib.index l [b] = if l.contains b then (l.idxOf b : Int) else -1 := by
  induction l with
  | nil => rfl
  | cons c r ih =>
    rw [Lib.index, ih]
    by_cases h : c = b
    · subst h; simp
    · have h' : ¬ b = c := fun e => h e.symm
      have hp : ([b].isPrefixOf (c :: r)) = false := by simp [List.isPrefixOf, h']
      rw [hp]
      by_cases hr : r.contains b
      · have hc : (c :: r).contains b = true := by simp at hr ⊢; exact .inr hr
        rw [if_pos hr, if_pos hc, List.idxOf_cons]
        have hcb : (c == b) = false := by simpa using h
        rw [hcb]
        have : ¬ ((r.idxOf b : Int) == -1) = true := by simp <;> omega
        simp [this]
      · have hc : ¬ (c :: r).contains b = true := by simp at hr ⊢; exact ⟨h', hr⟩
        rw [if_neg hr, if_neg hc]
        simp
theorem contains_one (l : List UInt8) (b : UInt8) : Lib.contains l [b] = l.contains b := by
  rw [Lib.contains, index_one]
  cases h : l.contains b <;> simp

/-- The parts of a text between the byte b. -/
def partsL (b : UInt8) : List UInt8 → List (List UInt8)
  | [] => [[]]
  | c :: r => if c = b then [] :: partsL b r else match partsL b r with
    | h :: t => (c :: h) :: t
    | [] => [[c]]
theorem partsL_ne (b : UInt8) (l : List UInt8) : partsL b l ≠ [] := by
  cases l with
  | nil => simp [partsL]
  | cons c r =>
    rw [partsL]
    split
    · simp
    · split <;> simp
theorem partsL_none {b : UInt8} : ∀ {l : List UInt8}, b ∉ l → partsL b l = [l]
  | [], _ => rfl
  | c :: r, h => by
    have h1 : ¬ c = b := fun e => h (by simp [e])
    rw [partsL, if_neg h1, partsL_none (l := r) (fun e => h (by simp [e]))]
theorem partsL_hit {b : UInt8} (r : List UInt8) : ∀ {p : List UInt8}, b ∉ p → partsL b (p ++ b :: r) = p :: partsL b r
  | [], _ => by simp [partsL]
  | c :: p, h => by
    have h1 : ¬ c = b := fun e => h (by simp [e])
    rw [List.cons_append, partsL, if_neg h1, partsL_hit r (p := p) (fun e => h (by simp [e]))]
theorem partsL_len (b : UInt8) (l : List UInt8) : (partsL b l).length ≤ l.length + 1 := by
  induction l with
  | nil => simp [partsL]
  | cons c r ih =>
    rw [partsL]
    split
    · simp; exact ih
    · split
      · next h t hp => rw [hp] at ih; simp at ih ⊢; omega
      · simp
theorem take_idxOf_notin {l : List UInt8} {b : UInt8} : b ∉ l.take (l.idxOf b) := by
  induction l with
  | nil => simp
  | cons c r ih =>
    by_cases h : c = b
    · subst h; simp
    · have hcb : (c == b) = false := by simpa using h
      rw [List.idxOf_cons, hcb]
      simp only [cond_false, List.take_succ_cons, List.mem_cons, not_or]
      exact ⟨fun e => h e.symm, ih⟩
theorem split_idxOf {l : List UInt8} {b : UInt8} (h : b ∈ l) : l = l.take (l.idxOf b) ++ b :: l.drop (l.idxOf b + 1) := by
  induction l with
  | nil => simp at h
  | cons c r ih =>
    by_cases hc : c = b
    · subst hc; simp
    · have hcb : (c == b) = false := by simpa using hc
      rw [List.idxOf_cons, hcb]
      simp only [cond_false, List.take_succ_cons, List.drop_succ_cons, List.cons_append, List.cons.injEq, true_and]
      exact ih (by simpa [Ne.symm (show c ≠ b from hc), show ¬ b = c from fun e => hc e.symm] using h)
theorem splitK_parts (b : UInt8) : ∀ (k : Nat) (l : List UInt8), Lib.count l [b] = k → Lib.splitK [b] 0 k l = partsL b l
  | 0, l, h => by
    by_cases hm : b ∈ l
    · exfalso
      have := Lib.count_hit (s := l) (sub := [b]) (i := l.idxOf b) (by simp) (by rw [index_one, if_pos (by simpa using hm)])
      omega
    · rw [partsL_none hm]; rfl
  | k + 1, l, h => by
    by_cases hm : b ∈ l
    · have hi : Lib.index l [b] = (l.idxOf b : Int) := by rw [index_one, if_pos (by simpa using hm)]
      have h2 := Lib.count_hit (s := l) (sub := [b]) (i := l.idxOf b) (by simp) hi
      have hd := split_idxOf hm
      rw [Lib.splitK, hi]
      have hne : ¬ ((l.idxOf b : Int) == -1) = true := by simp <;> omega
      rw [if_neg hne]
      simp only [Int.toNat_natCast, Nat.add_zero, List.length_singleton] at h2 ⊢
      rw [splitK_parts b k (l.drop (l.idxOf b + 1)) (by omega)]
      conv => rhs; rw [hd]
      rw [partsL_hit _ take_idxOf_notin]
    · exfalso
      have := Lib.count_miss (s := l) (sub := [b]) (by rw [index_one, if_neg (by simpa using hm)])
      omega
/-- The parts as texts. -/
def partsA (b : UInt8) (s : ByteArray) : List ByteArray := (partsL b s.data.toList).map fun l => ⟨l.toArray⟩
theorem splitB_parts (b : UInt8) (s sep : ByteArray) (h : sep.data.toList = [b]) : Lib.splitB sep 0 (Lib.countB s sep) s = partsA b s := by
  have h1 := Lib.splitB_data sep 0 (Lib.countB s sep) s
  rw [h, splitK_parts b (Lib.countB s sep) _ (by rw [← h])] at h1
  have h2 : ((Lib.splitB sep 0 (Lib.countB s sep) s).map (·.data.toList)).map (fun l => (⟨l.toArray⟩ : ByteArray)) = partsA b s := by rw [h1]; rfl
  rw [List.map_map] at h2
  rw [← h2]
  conv => lhs; rw [← List.map_id (Lib.splitB sep 0 (Lib.countB s sep) s)]
  exact List.map_congr_left fun a _ => (ba_mk a).symm
theorem partsA_len (b : UInt8) (s : ByteArray) : (partsA b s).length ≤ s.size + 1 := by
  have := partsL_len b s.data.toList
  rw [partsA, List.length_map]
  rw [ba_len] at this
  exact this

theorem cut_parts (b : UInt8) (l : List UInt8) : (Lib.cut l [b]).1 = (partsL b l).head (partsL_ne b l) := by
  by_cases hm : b ∈ l
  · have hi : Lib.index l [b] = (l.idxOf b : Int) := by rw [index_one, if_pos (by simpa using hm)]
    rw [Lib.cut, hi, if_pos (by omega)]
    simp only [Int.toNat_natCast]
    have hp : partsL b l = l.take (l.idxOf b) :: partsL b (l.drop (l.idxOf b + 1)) := by
      conv => lhs; rw [split_idxOf hm]
      exact partsL_hit _ take_idxOf_notin
    simp [hp]
  · have hi : Lib.index l [b] = -1 := by rw [index_one, if_neg (by simpa using hm)]
    rw [Lib.cut, hi, if_neg (by omega)]
    simp [partsL_none hm]

end Go.Proofs.YtopfcfedcmpamaaDoor
