/- Plain words on texts joined with a separator. -/
import Derived.Test.YtopfcfedcmpamaaDoorL
import Derived.Shelf.Strings.OnBuilder
namespace Go.Proofs.YtopfcfedcmpamaaDoor
set_option linter.unusedVariables false
set_option linter.unusedSimpArgs false

theorem ba_extJ {a b : ByteArray} (h : a.data.toList = b.data.toList) : a = b := by
  cases a; cases b; simp at h; simp [h]
def totS (l : List ByteArray) : Nat := (l.map (·.size)).sum
theorem totS_snoc {l : List ByteArray} {k : Nat} (h : k < l.length) : totS (l.take (k + 1)) = totS (l.take k) + l[k].size := by
  unfold totS
  rw [List.take_succ_eq_append_getElem h, List.map_append, List.sum_append]
  simp
theorem totS_take (l : List ByteArray) (k : Nat) : totS (l.take k) ≤ totS l := by
  have h : totS l = totS (l.take k) + totS (l.drop k) := by
    unfold totS
    rw [← List.sum_append, ← List.map_append, List.take_append_drop]
  omega
def joinV (l : List ByteArray) (sep : ByteArray) : ByteArray := ⟨(Lib.join (l.map (·.data.toList)) sep.data.toList).toArray⟩
theorem joinV_zero (l : List ByteArray) (sep : ByteArray) (h : 0 < l.length) : joinV (l.take (0 + 1)) sep = l[0] := by
  match l, h with
  | x :: r, _ => exact ba_extJ (by simp [joinV, Lib.join_one])
theorem joinV_succ (l : List ByteArray) (sep : ByteArray) (k : Nat) (h0 : 0 < k) (h : k < l.length) : joinV (l.take (k + 1)) sep = joinV (l.take k) sep ++ sep ++ l[k] := by
  match l, k, h0, h with
  | x :: r, k + 1, _, h =>
    have h' : k < r.length := by simpa using h
    refine ba_extJ ?_
    rw [ByteArray.data_append, Array.toList_append, ByteArray.data_append, Array.toList_append]
    simp only [joinV, List.take_succ_cons, List.map_cons, Lib.join_cons, List.map_take]
    rw [Lib.joinTail_take_succ _ _ k r[k].data.toList (by simp [List.getElem?_eq_getElem h'])]
    simp [List.append_assoc]
theorem joinV_nil (sep : ByteArray) : joinV [] sep = ⟨#[]⟩ := rfl
theorem joinV_size (l : List ByteArray) (sep : ByteArray) (hs : sep.size = 1) : ∀ k, k ≤ l.length → (joinV (l.take k) sep).size = totS (l.take k) + (k - 1)
  | 0, _ => rfl
  | 1, h => by rw [joinV_zero l sep (by omega), totS_snoc (by omega)]; simp [totS]
  | k + 2, h => by
    rw [joinV_succ l sep (k + 1) (by omega) (by omega), ByteArray.size_append, ByteArray.size_append, joinV_size l sep hs (k + 1) (by omega), totS_snoc (l := l) (k := k + 1) (by omega)]
    omega

end Go.Proofs.YtopfcfedcmpamaaDoor
