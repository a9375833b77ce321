/- Plain words: the files that were closed within a span, in the order of their days. -/
import Derived.Test.YtlhihdcdbclcbaaDoorD5s
namespace Go.Proofs.YtlhihdcdbclcbaaDoor
set_option linter.unusedVariables false
set_option linter.unusedSimpArgs false

/-- The place of a day in a list of files: behind the last one that was not closed later. -/
def plcC (o : List FileD) (d : Int) : Nat := o.length - o.reverse.findIdx fun y => decide (y.closed ≤ d)
theorem plcC_le (o : List FileD) (d : Int) : plcC o d ≤ o.length := Nat.sub_le _ _
theorem plcC_at {o : List FileD} {d : Int} (k : Nat) (hk : k ≤ o.length) (h1 : ∀ t (ht : t < o.length), k ≤ t → d < o[t].closed) (h2 : ∀ (h : 0 < k), (o[k - 1]'(by omega)).closed ≤ d) : plcC o d = k := by
  have h3 : (o.reverse.findIdx fun y => decide (y.closed ≤ d)) = o.length - k := by
    by_cases h0 : 0 < k
    · have hlt : o.length - k < o.reverse.length := by simp; omega
      rw [List.findIdx_eq hlt]
      refine ⟨?_, fun j hj => ?_⟩
      · have := h2 h0
        rw [List.getElem_reverse]
        have he : o.length - 1 - (o.length - k) = k - 1 := by omega
        simp only [he, decide_eq_true_eq]
        exact this
      · rw [List.getElem_reverse]
        have := h1 (o.length - 1 - j) (by omega) (by omega)
        simp; omega
    · obtain rfl : k = 0 := by omega
      have : o.length - 0 = o.reverse.length := by simp
      rw [this, List.findIdx_eq_length]
      intro x hx
      rw [List.mem_reverse] at hx
      obtain ⟨j, hj, rfl⟩ := List.mem_iff_getElem.1 hx
      have := h1 j hj (Nat.zero_le _)
      simp; omega
  unfold plcC
  rw [h3]; omega
def insC (o : List FileD) (x : FileD) : List FileD := o.take (plcC o x.closed) ++ x :: o.drop (plcC o x.closed)
theorem insC_len (o : List FileD) (x : FileD) : (insC o x).length = o.length + 1 := by
  have := plcC_le o x.closed
  unfold insC
  simp; omega
def srtC (l : List FileD) (k : Nat) : List FileD := (l.take k).foldl insC []
theorem srtC_zero (l : List FileD) : srtC l 0 = [] := rfl
theorem srtC_succ {l : List FileD} {k : Nat} (h : k < l.length) : srtC l (k + 1) = insC (srtC l k) l[k] := by
  unfold srtC
  rw [List.take_succ_eq_append_getElem h, List.foldl_append]
  rfl
theorem srtC_len (l : List FileD) : ∀ k, k ≤ l.length → (srtC l k).length = k
  | 0, _ => rfl
  | k + 1, h => by rw [srtC_succ (by omega), insC_len, srtC_len l k (by omega)]
/-- while a file goes down to its place: the k sorted ones, of which it has passed those from j on; then the rest -/
def movC (l : List FileD) (k j : Nat) : List FileD := match l[k]? with
  | none => l
  | some x => (srtC l k).take j ++ x :: ((srtC l k).drop j ++ l.drop (k + 1))
theorem movC_eq {l : List FileD} {k : Nat} (h : k < l.length) (j : Nat) : movC l k j = (srtC l k).take j ++ l[k] :: ((srtC l k).drop j ++ l.drop (k + 1)) := by
  unfold movC; rw [List.getElem?_eq_getElem h]
theorem movC_len {l : List FileD} {k j : Nat} (h : k < l.length) (hj : j ≤ k) : (movC l k j).length = l.length := by
  rw [movC_eq h]
  have := srtC_len l k (by omega)
  simp; omega
/-- the list when the first k are sorted -/
def halfC (l : List FileD) (k : Nat) : List FileD := srtC l k ++ l.drop k
theorem halfC_one (l : List FileD) (h : 0 < l.length) : halfC l 1 = l := by
  unfold halfC
  rw [srtC_succ h, srtC_zero]
  match l, h with
  | x :: r, _ => rfl
theorem halfC_len {l : List FileD} {k : Nat} (h : k ≤ l.length) : (halfC l k).length = l.length := by
  unfold halfC
  have := srtC_len l k h
  simp; omega
theorem halfC_mov {l : List FileD} {k : Nat} (h : k < l.length) : halfC l k = movC l k k := by
  rw [movC_eq h]
  unfold halfC
  have h1 := srtC_len l k (by omega)
  have h2 : (srtC l k).drop k = [] := List.drop_eq_nil_of_le (by omega)
  rw [List.take_of_length_le (by omega), h2, List.nil_append, List.drop_eq_getElem_cons h]
theorem halfC_end (l : List FileD) : halfC l l.length = srtC l l.length := by unfold halfC; simp
theorem movC_get {l : List FileD} {k j : Nat} (h : k < l.length) (hj : j ≤ k) : (movC l k j)[j]'(by rw [movC_len h hj]; omega) = l[k] := by
  have h1 := srtC_len l k (by omega)
  simp only [movC_eq h]
  rw [List.getElem_append_right (by simp; omega)]
  simp [h1, Nat.min_eq_left hj]
theorem movC_prev {l : List FileD} {k j : Nat} (h : k < l.length) (hj : j ≤ k) (h0 : 0 < j) : (movC l k j)[j - 1]'(by rw [movC_len h hj]; omega) = (srtC l k)[j - 1]'(by rw [srtC_len l k (by omega)]; omega) := by
  have h1 := srtC_len l k (by omega)
  simp only [movC_eq h]
  rw [List.getElem_append_left (by simp; omega), List.getElem_take]
/-- one step down: two neighbours change places -/
theorem movC_swap {l : List FileD} {k j : Nat} (h : k < l.length) (hj : j ≤ k) (h0 : 0 < j) :
    ((movC l k j).set j ((srtC l k)[j - 1]'(by rw [srtC_len l k (by omega)]; omega))).set (j - 1) l[k] = movC l k (j - 1) := by
  have h1 := srtC_len l k (by omega)
  obtain ⟨i, rfl⟩ : ∃ i, j = i + 1 := ⟨j - 1, by omega⟩
  have hi : i < (srtC l k).length := by omega
  have e1 : (srtC l k).take (i + 1) = (srtC l k).take i ++ [(srtC l k)[i]] := List.take_succ_eq_append_getElem hi
  have e2 : (srtC l k).drop i = (srtC l k)[i] :: (srtC l k).drop (i + 1) := List.drop_eq_getElem_cons hi
  have hlen : ((srtC l k).take i).length = i := by simp; omega
  simp only [Nat.add_sub_cancel]
  rw [movC_eq h, movC_eq h, e1, e2]
  rw [List.set_append_right _ _ (by simp; omega)]
  simp only [List.length_append, hlen, List.length_singleton, Nat.sub_self, List.set_cons_zero]
  rw [List.append_assoc, List.set_append_right _ _ (by omega)]
  simp [hlen]
  rw [e2]
  rfl
/-- it has come to its place -/
theorem movC_end {l : List FileD} {k j : Nat} (h : k < l.length) (hp : plcC (srtC l k) l[k].closed = j) : movC l k j = halfC l (k + 1) := by
  rw [movC_eq h]
  unfold halfC
  rw [srtC_succ h, insC, hp]
  simp

def spanB (a b : Int) (f : FileD) : Bool := !(f.state == 0) && inB f.closed a b
def spanK (l : List FileD) (a b : Int) (k : Nat) : List FileD := (l.take k).filter (spanB a b)
def spanL (l : List FileD) (a b : Int) : List FileD := l.filter (spanB a b)
theorem spanK_zero (l : List FileD) (a b : Int) : spanK l a b 0 = [] := rfl
theorem spanK_end (l : List FileD) (a b : Int) : spanK l a b l.length = spanL l a b := by unfold spanK spanL; rw [List.take_length]
theorem spanK_le (l : List FileD) (a b : Int) (k : Nat) : (spanK l a b k).length ≤ k := Nat.le_trans (List.length_filter_le _ _) (by simp; omega)
theorem spanL_le (l : List FileD) (a b : Int) : (spanL l a b).length ≤ l.length := List.length_filter_le _ _
theorem spanK_yes {l : List FileD} {a b : Int} {k : Nat} (h : k < l.length) (hs : spanB a b l[k] = true) : spanK l a b (k + 1) = spanK l a b k ++ [l[k]] := by
  unfold spanK
  rw [List.take_succ_eq_append_getElem h, List.filter_append]
  simp [hs]
theorem spanK_no {l : List FileD} {a b : Int} {k : Nat} (h : k < l.length) (hs : spanB a b l[k] = false) : spanK l a b (k + 1) = spanK l a b k := by
  unfold spanK
  rw [List.take_succ_eq_append_getElem h, List.filter_append]
  simp [hs]
def ordK (l : List FileD) (a b : Int) (k : Nat) : List FileD := (spanK l a b k).foldl insC []
theorem ordK_zero (l : List FileD) (a b : Int) : ordK l a b 0 = [] := rfl
theorem ordK_len (l : List FileD) (a b : Int) (k : Nat) : (ordK l a b k).length = (spanK l a b k).length := by
  have h := srtC_len (spanK l a b k) _ (Nat.le_refl _)
  unfold srtC at h
  rwa [List.take_length] at h
theorem ordK_yes {l : List FileD} {a b : Int} {k : Nat} (h : k < l.length) (hs : spanB a b l[k] = true) : ordK l a b (k + 1) = insC (ordK l a b k) l[k] := by
  unfold ordK
  rw [spanK_yes h hs, List.foldl_append]
  rfl
theorem ordK_no {l : List FileD} {a b : Int} {k : Nat} (h : k < l.length) (hs : spanB a b l[k] = false) : ordK l a b (k + 1) = ordK l a b k := by
  unfold ordK
  rw [spanK_no h hs]
def ordL (l : List FileD) (a b : Int) : List FileD := ordK l a b l.length
theorem ordL_srt (l : List FileD) (a b : Int) : srtC (spanL l a b) (spanL l a b).length = ordL l a b := by
  unfold srtC ordL ordK
  rw [List.take_length, spanK_end]
theorem ordL_len (l : List FileD) (a b : Int) : (ordL l a b).length = (spanL l a b).length := by
  unfold ordL; rw [ordK_len, spanK_end]
def idsK (o : List FileD) (k : Nat) : List Int := (o.take k).map (·.id)
theorem idsK_zero (o : List FileD) : idsK o 0 = [] := rfl
theorem idsK_len {o : List FileD} {k : Nat} (h : k ≤ o.length) : (idsK o k).length = k := by unfold idsK; simp; omega
theorem idsK_succ {o : List FileD} {k : Nat} (h : k < o.length) : idsK o (k + 1) = idsK o k ++ [o[k].id] := by
  unfold idsK
  rw [List.take_succ_eq_append_getElem h, List.map_append]
  rfl
def closedB (l : List FileD) (a b : Int) : Bool := filesB l && (inB a 0 20000 && inB b 0 20000 && decide (a ≤ b))
def closedL (l : List FileD) (a b : Int) : List Int := if closedB l a b then idsK (ordL l a b) (ordL l a b).length else []
theorem closedL_le (l : List FileD) (a b : Int) : (closedL l a b).length ≤ l.length := by
  unfold closedL
  split
  · rw [idsK_len (Nat.le_refl _), ordL_len]
    exact spanL_le l a b
  · simp

end Go.Proofs.YtlhihdcdbclcbaaDoor
