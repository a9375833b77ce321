/- Plain words: the schedule that a text tells; each side's reading of a schedule's own text gives the schedule. -/
import Derived.Test.YtopfcfedcmpamaaDoorD7
import Derived.Test.YtopfcfedcmpamaaDoorD4t
import Derived.Lib.SlTrimSet
namespace Go.Proofs.YtopfcfedcmpamaaDoor
set_option linter.unusedVariables false
set_option linter.unusedSimpArgs false
open Go.RowKit

def ktdB : ByteArray := ⟨#[107, 116, 100]⟩
/-- a text without the bytes k, t, d at its end -/
def tR (s : ByteArray) : ByteArray := ⟨(Lib.trimRightS s.data.toList ktdB.data.toList).toArray⟩
theorem dropWhile_none {p : UInt8 → Bool} : ∀ {l : List UInt8}, (∀ x ∈ l, p x = false) → l.dropWhile p = l
  | [], _ => rfl
  | x :: l, h => by rw [List.dropWhile_cons, if_neg (by rw [h x (by simp)]; exact Bool.false_ne_true)]
theorem dropWhile_len (p : UInt8 → Bool) : ∀ l : List UInt8, (l.dropWhile p).length ≤ l.length
  | [] => Nat.le_refl _
  | x :: l => by
    rw [List.dropWhile_cons]
    split
    · exact Nat.le_trans (dropWhile_len p l) (by simp)
    · exact Nat.le_refl _
theorem tR_size (s : ByteArray) : (tR s).size ≤ s.size := by
  unfold tR
  show (Array.size _) ≤ _
  rw [List.size_toArray, ← ba_len s, Lib.trimRightS, List.length_reverse]
  have := dropWhile_len (ktdB.data.toList.contains ·) s.data.toList.reverse
  rw [List.length_reverse] at this
  exact this
/-- what is left behind the number of days: its place in "ktd", from 1 on -/
def actOf (s : ByteArray) : Int := 1 + Lib.index ktdB.data.toList (s.extract (tR s).size s.size).data.toList
def rulOf (w : ByteArray) : RuleD := ⟨digV (cF 46 w), digV (cF 43 (cS 46 w)), digV (tR (cS 43 (cS 46 w))), actOf (cS 43 (cS 46 w))⟩
def pRul (s : ByteArray) : List RuleD := (partsA 32 s).map rulOf

def actC (a : Int) : UInt8 := if a = 1 then 107 else if a = 2 then 116 else 100
theorem actT_data (a : Int) : (actT a).data.toList = [actC a] := by
  unfold actT actC
  split
  · rfl
  · split <;> rfl
theorem actC_mem (a : Int) : ktdB.data.toList.contains (actC a) = true := by
  unfold actC
  split
  · rfl
  · split <;> rfl
theorem actC_ne (a : Int) : actC a ≠ 32 ∧ actC a ≠ 43 ∧ actC a ≠ 46 := by
  unfold actC
  split
  · decide
  · split <;> decide
theorem actC_at {a : Int} (h0 : 1 ≤ a) (h1 : a ≤ 3) : 1 + Lib.index ktdB.data.toList [actC a] = a := by
  rw [index_one]
  obtain rfl | rfl | rfl : a = 1 ∨ a = 2 ∨ a = 3 := by omega
  · decide
  · decide
  · decide
def rulL (r : RuleD) : List UInt8 := Lib.itoa r.s ++ 46 :: (Lib.itoa r.e ++ 43 :: (Lib.itoa r.d ++ [actC r.a]))
theorem rulT_data (r : RuleD) : (rulT r).data.toList = rulL r := by
  unfold rulT rulL
  simp [ByteArray.data_append, numB_data, actT_data]
theorem tail_trim {d : Int} (h : 0 ≤ d) (a : Int) : Lib.trimRightS (Lib.itoa d ++ [actC a]) ktdB.data.toList = Lib.itoa d := by
  unfold Lib.trimRightS
  rw [List.reverse_append, List.reverse_singleton, List.singleton_append, List.dropWhile_cons, if_pos (actC_mem a), dropWhile_none, List.reverse_reverse]
  intro x hx
  have h1 := List.all_eq_true.1 (itoa_dig h) x (by simpa using hx)
  cases h2 : ktdB.data.toList.contains x
  · rfl
  · exfalso
    have h3 : x = 107 ∨ x = 116 ∨ x = 100 := by simpa [ktdB] using h2
    rcases h3 with rfl | rfl | rfl <;> cases h1
theorem rulOf_T {r : RuleD} (hs : 0 ≤ r.s ∧ r.s ≤ 999999) (he : 0 ≤ r.e ∧ r.e ≤ 999999) (hd : 0 ≤ r.d ∧ r.d ≤ 999999) (ha : 1 ≤ r.a ∧ r.a ≤ 3) : rulOf ⟨(rulL r).toArray⟩ = r := by
  have c1 := cF_mk (s := ⟨(rulL r).toArray⟩) (cut_yes (b := 46) (p := Lib.itoa r.s) (Lib.itoa r.e ++ 43 :: (Lib.itoa r.d ++ [actC r.a])) (itoa_notin hs.1 rfl))
  have c2 := cF_mk (s := ⟨(Lib.itoa r.e ++ 43 :: (Lib.itoa r.d ++ [actC r.a])).toArray⟩) (cut_yes (b := 43) (p := Lib.itoa r.e) (Lib.itoa r.d ++ [actC r.a]) (itoa_notin he.1 rfl))
  have c3 : tR ⟨(Lib.itoa r.d ++ [actC r.a]).toArray⟩ = numB r.d := by
    unfold tR
    show (⟨(Lib.trimRightS (Lib.itoa r.d ++ [actC r.a]) ktdB.data.toList).toArray⟩ : ByteArray) = _
    rw [tail_trim hd.1]
    rfl
  have c4 : actOf ⟨(Lib.itoa r.d ++ [actC r.a]).toArray⟩ = r.a := by
    unfold actOf
    rw [c3]
    have h1 : ((⟨(Lib.itoa r.d ++ [actC r.a]).toArray⟩ : ByteArray).extract (numB r.d).size (ByteArray.size ⟨(Lib.itoa r.d ++ [actC r.a]).toArray⟩)).data.toList = [actC r.a] := by
      rw [ByteArray.data_extract, Array.toList_extract]
      show List.extract (Lib.itoa r.d ++ [actC r.a]) _ _ = _
      rw [numB_size]
      show List.extract (Lib.itoa r.d ++ [actC r.a]) _ (Array.size _) = _
      rw [List.size_toArray, List.length_append, List.extract]
      simp
    rw [h1]
    exact actC_at ha.1 ha.2
  unfold rulOf
  rw [c1.1, c1.2.1, c2.1, c2.2.1, c3, c4]
  show (⟨digV (numB r.s), digV (numB r.e), _, _⟩ : RuleD) = r
  rw [digV_num hs.1 hs.2, digV_num he.1 he.2, digV_num hd.1 hd.2]

theorem sp_rul {r : RuleD} (hs : 0 ≤ r.s) (he : 0 ≤ r.e) (hd : 0 ≤ r.d) : (32 : UInt8) ∉ rulL r := by
  unfold rulL
  simp only [List.mem_append, List.mem_cons, not_or]
  exact ⟨itoa_notin hs rfl, by decide, itoa_notin he rfl, by decide, itoa_notin hd rfl, (actC_ne r.a).1.symm, by simp⟩
theorem schT_data (r : RuleD) (l : List RuleD) : (schT (r :: l)).data.toList = rulL r ++ l.flatMap fun r => 32 :: rulL r := by
  unfold schT schK joinV wrdK
  rw [List.take_length]
  show Lib.join (((r :: l).map rulT).map (·.data.toList)) [32] = _
  rw [List.map_map, List.map_cons, Lib.join_cons, Lib.joinTail, List.map_map, Function.comp_apply, rulT_data]
  congr 1
  rw [List.flatMap]
  congr 1
  refine List.map_congr_left fun x _ => ?_
  show [32] ++ (rulT x).data.toList = _
  rw [rulT_data]
  rfl
theorem sched_mem {l : List RuleD} (h : schedB l = true) : l.length ≤ 8 ∧ ∀ r ∈ l, (1 ≤ r.s ∧ r.s ≤ 99) ∧ (0 ≤ r.e ∧ r.e ≤ 9) ∧ (0 ≤ r.d ∧ r.d ≤ 20000) ∧ (1 ≤ r.a ∧ r.a ≤ 3) := by
  refine ⟨(sched_bd h).1, fun r hr => ?_⟩
  obtain ⟨i, hi, rfl⟩ := List.mem_iff_getElem.1 hr
  exact (sched_bd h).2 i hi
theorem parts_sch {l : List RuleD} (h : schedB l = true) (hl : l ≠ []) : partsA 32 (schT l) = l.map fun r => ⟨(rulL r).toArray⟩ := by
  obtain ⟨_, hm⟩ := sched_mem h
  match l, hl with
  | r :: m, _ =>
    have hp : ∀ x ∈ r :: m, (32 : UInt8) ∉ rulL x := fun x hx => by
      have := hm x hx
      exact sp_rul (by omega) (by omega) (by omega)
    rw [parts_mk 32 (p := rulL r :: m.map rulL) (by rw [schT_data]; exact parts_flat m (hp r (by simp)) (fun x hx => hp x (by simp [hx]))), List.map_cons, List.map_cons, List.map_map]
    rfl
theorem map_id_of {α : Type} {f : α → α} {l : List α} (h : ∀ x ∈ l, f x = x) : l.map f = l := by
  conv => rhs; rw [← List.map_id l]
  exact List.map_congr_left fun x hx => h x hx
theorem p_sch {l : List RuleD} (h : schedB l = true) (hl : l ≠ []) : pRul (schT l) = l := by
  obtain ⟨_, hm⟩ := sched_mem h
  unfold pRul
  rw [parts_sch h hl, List.map_map]
  refine map_id_of fun r hr => ?_
  have := hm r hr
  exact rulOf_T (by omega) (by omega) (by omega) (by omega)

/-! the reference's reading -/
def lastB (w : ByteArray) : UInt8 := w.data.toList.getLastD 0
def actQ (b : UInt8) : Int := if b = 107 then 1 else if b = 116 then 2 else if b = 100 then 3 else 0
def wPlus (w : ByteArray) : List ByteArray := partsA 43 (w.extract 0 (w.size - 1))
def wDot (w : ByteArray) : List ByteArray := partsA 46 ((wPlus w).headD ⟨#[]⟩)
def wFit (w : ByteArray) : Bool := decide ((wPlus w).length = 2) && decide ((wDot w).length = 2)
def rulQ (w : ByteArray) : RuleD := if w.size = 0 then ⟨0, 0, 0, 0⟩ else if wFit w then ⟨rdI ((wDot w).getD 0 ⟨#[]⟩), rdI ((wDot w).getD 1 ⟨#[]⟩), rdI ((wPlus w).getD 1 ⟨#[]⟩), actQ (lastB w)⟩ else ⟨0, 0, 0, 0⟩
def qRul (s : ByteArray) : List RuleD := ((partsA 32 s).take 9).map rulQ
theorem actQ_C {a : Int} (h0 : 1 ≤ a) (h1 : a ≤ 3) : actQ (actC a) = a := by
  obtain rfl | rfl | rfl : a = 1 ∨ a = 2 ∨ a = 3 := by omega
  · decide
  · decide
  · decide
theorem rulQ_T {r : RuleD} (hs : 0 ≤ r.s ∧ r.s ≤ 999999) (he : 0 ≤ r.e ∧ r.e ≤ 999999) (hd : 0 ≤ r.d ∧ r.d ≤ 999999) (ha : 1 ≤ r.a ∧ r.a ≤ 3) : rulQ ⟨(rulL r).toArray⟩ = r := by
  have e0 : rulL r = ((Lib.itoa r.s ++ 46 :: Lib.itoa r.e) ++ 43 :: Lib.itoa r.d) ++ [actC r.a] := by unfold rulL; simp
  have z : ByteArray.size ⟨(rulL r).toArray⟩ = ((Lib.itoa r.s ++ 46 :: Lib.itoa r.e) ++ 43 :: Lib.itoa r.d).length + 1 := by
    show Array.size _ = _
    rw [List.size_toArray, e0, List.length_append]
    rfl
  have e1 : (⟨(rulL r).toArray⟩ : ByteArray).extract 0 (ByteArray.size ⟨(rulL r).toArray⟩ - 1) = ⟨((Lib.itoa r.s ++ 46 :: Lib.itoa r.e) ++ 43 :: Lib.itoa r.d).toArray⟩ := by
    refine ba_extJ ?_
    rw [ByteArray.data_extract, Array.toList_extract, z]
    show List.extract (rulL r) _ _ = (Lib.itoa r.s ++ 46 :: Lib.itoa r.e) ++ 43 :: Lib.itoa r.d
    rw [e0, List.extract]
    simp only [List.drop_zero, Nat.add_sub_cancel, Nat.sub_zero]
    exact List.take_left' rfl
  have e2 : wPlus ⟨(rulL r).toArray⟩ = [⟨(Lib.itoa r.s ++ 46 :: Lib.itoa r.e).toArray⟩, numB r.d] := by
    unfold wPlus
    rw [e1, parts_two (by simp only [List.mem_append, List.mem_cons, not_or]; exact ⟨itoa_notin hs.1 rfl, by decide, itoa_notin he.1 rfl⟩) (itoa_notin hd.1 rfl)]
    rfl
  have e3 : wDot ⟨(rulL r).toArray⟩ = [numB r.s, numB r.e] := by
    unfold wDot
    rw [e2]
    show partsA 46 ⟨(Lib.itoa r.s ++ 46 :: Lib.itoa r.e).toArray⟩ = _
    rw [parts_two (itoa_notin hs.1 rfl) (itoa_notin he.1 rfl)]
    rfl
  have e4 : lastB ⟨(rulL r).toArray⟩ = actC r.a := by
    unfold lastB
    show (rulL r).getLastD 0 = _
    rw [e0, List.getLastD_eq_getLast?, List.getLast?_concat]
    rfl
  have hR : ∀ n : Int, 0 ≤ n → n ≤ 999999 → rdI (numB n) = n := fun n h0 h1 => by unfold rdI; rw [numB_data]; exact readI_num h0 h1
  unfold rulQ
  rw [if_neg (by rw [z]; omega), if_pos (by unfold wFit; rw [e2, e3]; rfl), e2, e3, e4, actQ_C ha.1 ha.2]
  show (⟨rdI (numB r.s), rdI (numB r.e), rdI (numB r.d), _⟩ : RuleD) = r
  rw [hR _ hs.1 hs.2, hR _ he.1 he.2, hR _ hd.1 hd.2]
theorem q_sch {l : List RuleD} (h : schedB l = true) (hl : l ≠ []) : qRul (schT l) = l := by
  obtain ⟨h8, hm⟩ := sched_mem h
  unfold qRul
  rw [parts_sch h hl, List.take_of_length_le (by rw [List.length_map]; omega), List.map_map]
  refine map_id_of fun r hr => ?_
  have := hm r hr
  exact rulQ_T (by omega) (by omega) (by omega) (by omega)

/-- the text tells a schedule -/
def okS (s : ByteArray) : Bool := schedB (pRul s) && decide (schT (pRul s) = s)
def okT (s : ByteArray) : Bool := schedB (qRul s) && decide (schT (qRul s) = s)
theorem parts_ne (b : UInt8) (s : ByteArray) : partsA b s ≠ [] := by
  unfold partsA
  intro h
  have h2 : partsL b s.data.toList = [] := List.map_eq_nil_iff.1 h
  by_cases hb : b ∈ s.data.toList
  · rw [split_idxOf hb, partsL_hit _ take_idxOf_notin] at h2
    cases h2
  · rw [partsL_none hb] at h2
    cases h2
theorem pRul_ne (s : ByteArray) : pRul s ≠ [] := fun h => parts_ne 32 s (List.map_eq_nil_iff.1 h)
theorem qRul_ne (s : ByteArray) : qRul s ≠ [] := fun h => by
  have h1 : (partsA 32 s).take 9 = [] := List.map_eq_nil_iff.1 h
  rcases List.take_eq_nil_iff.1 h1 with h2 | h2
  · cases h2
  · exact parts_ne 32 s h2
theorem okS_same {s : ByteArray} (h : okS s = true) : okT s = true ∧ qRul s = pRul s := by
  simp only [okS, Bool.and_eq_true, decide_eq_true_eq] at h
  obtain ⟨h1, h2⟩ := h
  have h3 := q_sch h1 (pRul_ne s)
  rw [h2] at h3
  refine ⟨?_, h3⟩
  unfold okT
  rw [h3, h1]
  simp [h2]
theorem okT_back {s : ByteArray} (h : okT s = true) : okS s = true := by
  simp only [okT, Bool.and_eq_true, decide_eq_true_eq] at h
  obtain ⟨h1, h2⟩ := h
  have h3 := p_sch h1 (qRul_ne s)
  rw [h2] at h3
  unfold okS
  rw [h3, h1]
  simp [h2]
theorem okS_eq (s : ByteArray) : okT s = okS s := by
  cases h : okS s
  · cases h2 : okT s
    · rfl
    · rw [okT_back h2] at h; cases h
  · exact (okS_same h).1
theorem okS_size {s : ByteArray} (h : s.size = 0) : okS s = false := by
  have hs : s = ⟨#[]⟩ := ba_extJ (by have := ba_len s; rw [h] at this; exact List.length_eq_zero_iff.1 this)
  subst hs
  rfl
def keepS (b : Bool) (l : List RuleD) : List RuleD := if b then l else []
theorem keepS_le (s : ByteArray) : (keepS (okS s) (pRul s)).length ≤ 8 := by
  unfold keepS
  split
  · next h =>
    simp only [okS, Bool.and_eq_true] at h
    exact (sched_bd h.1).1
  · simp
/-- the empty text tells the empty schedule -/
def sB (s : ByteArray) : Bool := decide (s.size = 0) || okS s

end Go.Proofs.YtopfcfedcmpamaaDoor
