/- Contracts: JoinStrings. -/
import Derived.Test.YtebomppjcaahpaaJ
import Derived.Deep.RegionHeld3
namespace Go.Proofs.Ytebomppjcaahpaa
set_option linter.unusedVariables false
set_option linter.unusedSimpArgs false
open Go.RowKit Go.Shelf
attribute [local go_sem] Aft.cell

theorem hasB_index (s : ByteArray) (b : UInt8) : decide (0 ≤ Lib.indexByte s.data.toList b) = hasB b s := by
  have hge := Lib.indexByte_ge s.data.toList b
  unfold hasB
  by_cases h : Lib.indexByte s.data.toList b = -1
  · have h1 := Lib.indexByte_none h
    have h2 : s.data.toList.contains b = false := by
      cases hc : s.data.toList.contains b
      · rfl
      · obtain ⟨k, hk, e⟩ := List.getElem_of_mem (List.contains_iff_mem.1 hc)
        exact absurd (by rw [List.getElem?_eq_getElem hk, e]) (h1 k)
    rw [h2, h]; rfl
  · obtain ⟨o, ho⟩ : ∃ o : Nat, Lib.indexByte s.data.toList b = o := ⟨(Lib.indexByte s.data.toList b).toNat, by omega⟩
    have h1 := (Lib.indexByte_some ho).1
    have h2 : s.data.toList.contains b = true := List.contains_iff_mem.2 (List.mem_of_getElem? h1)
    rw [h2, ho]; simp

def joinV (l : List ByteArray) (sep : ByteArray) : ByteArray := ⟨(Lib.join (l.map (·.data.toList)) sep.data.toList).toArray⟩
def sepB (sep : ByteArray) : UInt8 := sep.data.toList.headD 0
def okJ (l : List ByteArray) (sep : ByteArray) : Bool := decide (sep.size = 1) && (!l.isEmpty && (l.all (fun s => !hasB (sepB sep) s) && decide (totS l + (l.length - 1) ≤ 4000)))
def valJ (l : List ByteArray) (sep : ByteArray) : ByteArray := if okJ l sep then joinV l sep else ⟨#[]⟩

theorem joinV_zero (l : List ByteArray) (sep : ByteArray) (h : 0 < l.length) : joinV (l.take (0 + 1)) sep = l[0] := by
  match l, h with
  | x :: r, _ => exact ba_ext (by simp [joinV, Lib.join_one])
theorem joinV_succ (l : List ByteArray) (sep : ByteArray) (k : Nat) (h0 : 0 < k) (h : k < l.length) : joinV (l.take (k + 1)) sep = joinV (l.take k) sep ++ sep ++ l[k] := by
  match l, k, h0, h with
  | x :: r, k + 1, _, h =>
    have h' : k < r.length := by simpa using h
    refine ba_ext ?_
    rw [ByteArray.data_append, Array.toList_append, ByteArray.data_append, Array.toList_append]
    simp only [joinV, List.take_succ_cons, List.map_cons, Lib.join_cons, List.map_take]
    rw [Lib.joinTail_take_succ _ _ k r[k].data.toList (by simp [List.getElem?_eq_getElem h'])]
    simp [List.append_assoc]
theorem joinV_nil (sep : ByteArray) : joinV [] sep = ⟨#[]⟩ := rfl
theorem joinV_size (l : List ByteArray) (sep : ByteArray) (hs : sep.size = 1) : ∀ k, k ≤ l.length → (joinV (l.take k) sep).size = totS (l.take k) + (k - 1)
  | 0, _ => rfl
  | 1, h => by rw [joinV_zero l sep (by omega), totS_snoc (by omega)]; simp [totS]
  | k + 2, h => by
    rw [joinV_succ l sep (k + 1) (by omega) (by omega), ByteArray.size_append, ByteArray.size_append, joinV_size l sep hs (k + 1) (by omega), totS_snoc (l := l) (k := k + 1) (by omega)]
    omega
theorem okJ_short {l : List ByteArray} {sep : ByteArray} (h : sep.size ≠ 1 ∨ l.length = 0) : okJ l sep = false ∧ valJ l sep = ⟨#[]⟩ := by
  have h1 : okJ l sep = false := by
    unfold okJ
    rcases h with h | h
    · simp [h]
    · have : l = [] := by simpa using h
      subst this; simp
  exact ⟨h1, by simp [valJ, h1]⟩
theorem okJ_has {l : List ByteArray} {sep : ByteArray} {k : Nat} (hk : k < l.length) (h : hasB (sepB sep) l[k] = true) : okJ l sep = false ∧ valJ l sep = ⟨#[]⟩ := by
  have h2 : l.all (fun s => !hasB (sepB sep) s) = false := by
    rw [List.all_eq_false]
    exact ⟨l[k], List.getElem_mem hk, by simp [h]⟩
  have h1 : okJ l sep = false := by unfold okJ; rw [h2]; simp
  exact ⟨h1, by simp [valJ, h1]⟩
theorem okJ_long {l : List ByteArray} {sep : ByteArray} (h : 4000 < totS l + (l.length - 1)) : okJ l sep = false ∧ valJ l sep = ⟨#[]⟩ := by
  have h1 : okJ l sep = false := by unfold okJ; rw [show decide (totS l + (l.length - 1) ≤ 4000) = false by simp; omega]; simp
  exact ⟨h1, by simp [valJ, h1]⟩
theorem okJ_ok {l : List ByteArray} {sep : ByteArray} (hs : sep.size = 1) (hn : l.length ≠ 0) (h : ∀ (k : Nat) (hk : k < l.length), hasB (sepB sep) l[k] = false) (ht : totS l + (l.length - 1) ≤ 4000) : okJ l sep = true ∧ valJ l sep = joinV l sep := by
  have h1 : okJ l sep = true := by
    have h2 : l.all (fun s => !hasB (sepB sep) s) = true := by
      rw [List.all_eq_true]
      intro x hx
      obtain ⟨k, hk, e⟩ := List.getElem_of_mem hx
      rw [← e, h k hk]; rfl
    have h3 : l.isEmpty = false := by cases l with | nil => simp at hn | cons _ _ => rfl
    unfold okJ
    rw [h2, h3]; simp [hs, ht]
  exact ⟨h1, by simp [valJ, h1]⟩
/-- The first k do not hold the sign. -/
def NoB (l : List ByteArray) (sep : ByteArray) (k : Nat) : Prop := ∀ (j : Nat) (hj : j < l.length), j < k → hasB (sepB sep) l[j] = false
theorem NoB.step {l : List ByteArray} {sep : ByteArray} {k : Nat} (h : NoB l sep k) (hk : k < l.length) (h1 : hasB (sepB sep) l[k] = false) : NoB l sep (k + 1) := fun j hj hlt => by
  rcases Nat.lt_or_ge j k with h2 | h2
  · exact h j hj h2
  · have : j = k := by omega
    subst this; exact h1
theorem sepB_get {sep : ByteArray} (h : sep.size = 1) : sep = ⟨#[sepB sep]⟩ := by
  refine ba_ext ?_
  have h1 := ba_len sep
  unfold sepB
  match hd : sep.data.toList, h1 with
  | [x], _ => simp
  | [], h1 => simp at h1; omega
  | _ :: _ :: _, h1 => simp at h1; omega

set_option maxHeartbeats 2000000 in
theorem c_impl_JoinStrings (A : Option Addr) (c : Nat) (l : List ByteArray) (sep : ByteArray) (w : World) (hl : Ls w w.heap.size encStr 1 A l) (htot : l.length + totS l ≤ 1048576) (hcap : l.length ≤ c) (hss : sep.size ≤ 9223372036854775807) :
    Calls Try.prog 7 #[.slice A l.length c, .string sep] w fun e w' => e = .returned (.tuple #[.string (valJ l sep), .bool (okJ l sep)]) ∧ Below w.heap.size w w' := by
  have hlen : (l.length : Int) ≤ 1048576 := by omega
  by_cases hn : l.length = 0
  · have Hv := Lib.hid (okJ_short (sep := sep) (.inr hn))
    have hn' : (l.length : Int) = 0 := by omega
    go_enter Try.func7, Try.ntmps7
    go_wp2_with fail
    go_ret2
    exact ⟨by rw [Hv.out.1, Hv.out.2]; rfl, Below.refl _ _⟩
  by_cases hs : sep.size = 1
  · have hn' : ((l.length : Int) == 0) = false := beq_eq_false_iff_ne.2 (by omega)
    have hs' : (sep.size : Int) = 1 := by omega
    have Hs := Lib.hid hs
    have Hsep := Lib.hid (sepB_get hs)
    go_enter Try.func7, Try.ntmps7
    go_wp2_with fail
    go_loopw [6, 22] (fun tt i wr => ∃ k : Nat, k ≤ l.length ∧ i = .int .i64 k ∧ tt = .int .i64 ((l.length : Int) - 1 + (totS (l.take k) : Int)) ∧ Hid (NoB l sep k) ∧ Hid (k = 0 ∨ totS (l.take k) + (l.length - 1) ≤ 4000) ∧ Below w.heap.size w wr) (fun _ i _ => l.length - (intOf i).toNat)
    case atStart => exact ⟨0, Nat.zero_le _, rfl, by simp [totS], fun _ _ h => absurd h (by omega), .inl rfl, Below.refl _ _⟩
    case round =>
      obtain ⟨k, hk, rfl, rfl, hno, hkt, hb⟩ := hrel
      by_cases hlt : k < l.length
      · obtain ⟨b, off, rfl, hbb, hc0⟩ := (hl.below hb).at_String hlt
        have hC := Any.strings_Contains_one Try.lays144 l[k] (sepB sep) wr
        rw [← Hsep.out, hasB_index] at hC
        have hst := totS_snoc hlt
        have htk := totS_take l (k + 1)
        have Hst := Lib.hid hst
        have htk2 : ((totS (l.take k) : Int) + (l[k].size : Int)) ≤ 1048576 := by omega
        clear hst
        cases hx : hasB (sepB sep) l[k]
        · rw [hx] at hC
          have Hno := Lib.hid (hno.out.step hlt hx)
          clear hx
          by_cases hq : totS (l.take (k + 1)) + (l.length - 1) ≤ 4000
          · have hq' : ¬ (4000 : Int) < (l.length : Int) - 1 + (totS (l.take k) : Int) + (l[k].size : Int) := by have := Hst.out; omega
            have Hq := Lib.hid hq
            clear hq
            go_wp2_with fail
            refine hC.mono ?_
            rintro e w1 ⟨rfl, rfl⟩
            go_wp2_with fail
            go_roundw
            case rel => exact ⟨k + 1, by omega, by go_num, by rw [Hst.out]; congr 1; omega, Hno.out, .inr Hq.out, hb⟩
            case measure => simp [intOf]; omega
          · have hq' : (4000 : Int) < (l.length : Int) - 1 + (totS (l.take k) : Int) + (l[k].size : Int) := by have := Hst.out; omega
            have Hv := Lib.hid (okJ_long (l := l) (sep := sep) (by omega))
            clear hq
            go_wp2_with fail
            refine hC.mono ?_
            rintro e w1 ⟨rfl, rfl⟩
            go_wp2_with fail
            go_ret2
            exact ⟨by rw [Hv.out.1, Hv.out.2]; rfl, hb⟩
        · rw [hx] at hC
          have Hv := Lib.hid (okJ_has hlt hx)
          clear hx
          go_wp2_with fail
          refine hC.mono ?_
          rintro e w1 ⟨rfl, rfl⟩
          go_wp2_with fail
          go_ret2
          exact ⟨by rw [Hv.out.1, Hv.out.2]; rfl, hb⟩
      · have hkk : k = l.length := by omega
        subst hkk
        have ht : totS l + (l.length - 1) ≤ 4000 := by
          have := hkt.out
          rw [List.take_length] at this
          omega
        have Hv := Lib.hid (okJ_ok hs hn (fun j hj => hno.out j hj hj) ht)
        have hjs := joinV_size l sep hs l.length (Nat.le_refl _)
        rw [List.take_length] at hjs
        have hJ : (Lib.join (l.map (·.data.toList)) sep.data.toList).length ≤ 140737488355328 := by
          have : (Lib.join (l.map (·.data.toList)) sep.data.toList).length = (joinV l sep).size := by simp [joinV, ByteArray.size]
          omega
        have hL := hl.below hb
        obtain ⟨b, off, rfl, hbb, _⟩ := hL.at_String (k := 0) (by omega)
        have hj := Any.strings_Join Try.lays156 Try.Builder_Extra_156 b off c l sep wr (fun j x hx => by
          obtain ⟨hj, e⟩ := List.getElem?_eq_some_iff.1 hx
          obtain ⟨b', off', he, _, h2⟩ := hL.at_String hj
          cases he
          rw [h2, e]) (by have := hb.size; omega) (by omega) hcap hJ
        clear hJ hjs ht
        go_wp2_with fail
        refine hj.mono ?_
        rintro e w1 ⟨rfl, hb1⟩
        have hbF := blw hb hb1
        go_wp2_with fail
        go_ret2
        exact ⟨by rw [Hv.out.1, Hv.out.2]; rfl, hbF⟩
  · have Hv := Lib.hid (okJ_short (l := l) (.inl hs))
    have hn' : ((l.length : Int) == 0) = false := beq_eq_false_iff_ne.2 (by omega)
    have hs' : ¬ (sep.size : Int) = 1 := by omega
    go_enter Try.func7, Try.ntmps7
    go_wp2_with fail
    go_ret2
    exact ⟨by rw [Hv.out.1, Hv.out.2]; rfl, Below.refl _ _⟩

set_option maxHeartbeats 2000000 in
theorem c_spec_JoinStrings (A : Option Addr) (c : Nat) (l : List ByteArray) (sep : ByteArray) (w : World) (hl : Ls w w.heap.size encStr 1 A l) (htot : l.length + totS l ≤ 1048576) (hss : sep.size ≤ 9223372036854775807) :
    Calls Try.prog 5 #[.slice A l.length c, .string sep] w fun e w' => e = .returned (.tuple #[.string (valJ l sep), .bool (okJ l sep)]) ∧ Below w.heap.size w w' := by
  have hlen : (l.length : Int) ≤ 1048576 := by omega
  by_cases hs : sep.size = 1
  · have hs' : (sep.size : Int) = 1 := by omega
    by_cases hn : l.length = 0
    · have Hv := Lib.hid (okJ_short (sep := sep) (.inr hn))
      have hn' : (l.length : Int) = 0 := by omega
      go_enter Try.func5, Try.ntmps5
      go_wp2_with fail
      go_ret2
      exact ⟨by rw [Hv.out.1, Hv.out.2]; rfl, Below.refl _ _⟩
    have hn' : ((l.length : Int) == 0) = false := beq_eq_false_iff_ne.2 (by omega)
    have Hs := Lib.hid hs
    have Hsep := Lib.hid (sepB_get hs)
    go_enter Try.func5, Try.ntmps5
    go_wp2_with fail
    go_loopw [6, 7] (fun v i wr => ∃ k : Nat, k ≤ l.length ∧ i = .int .i64 k ∧ v = .string (joinV (l.take k) sep) ∧ Hid (NoB l sep k) ∧ (joinV (l.take k) sep).size ≤ 4000 ∧ Below w.heap.size w wr) (fun _ i _ => l.length - (intOf i).toNat)
    case atStart => exact ⟨0, Nat.zero_le _, rfl, rfl, fun _ _ h => absurd h (by omega), (by show (0 : Nat) ≤ 4000; omega), Below.refl _ _⟩
    case round =>
      obtain ⟨k, hk, rfl, rfl, hno, hkt, hb⟩ := hrel
      by_cases hlt : k < l.length
      · obtain ⟨b, off, rfl, hbb, hc0⟩ := (hl.below hb).at_String hlt
        have hC := l1Stands_any l[k] (sepB sep) wr (by have := totS_snoc hlt; have := totS_take l (k + 1); omega)
        have hid : Hid (∀ W : World, Below wr.heap.size wr W → W.cell? ⟨b, off + k, none⟩ = some (.string l[k])) := fun W h => (h.cell (p := ⟨b, off + k, none⟩) (by have := hb.size; show b < wr.heap.size; omega)).trans hc0
        have hbd : Below w.heap.size w wr.drew := hb.drew
        have hsz1 : (l[k].size : Int) ≤ 9223372036854775807 := by have := totS_snoc hlt; have := totS_take l (k + 1); omega
        have hsz0 : l[k].size ≤ 9223372036854775807 := by omega
        have hb0 : sep[0]'(by omega) = sepB sep := by
          unfold sepB
          have := get_data (s := sep) (k := 0) (by omega)
          rw [← this]
          match hd : sep.data.toList, ba_len sep with
          | [], h1 => simp at h1; omega
          | x :: _, _ => rfl
        clear hC
        go_wp2_with fail
        go_region_held3 (fun W => W.cell? ⟨b, off + k, none⟩ = some (.string l[k]))
          (exact hid.out _ (Below.refl _ wr).drew)
          (first | (go_at_call 9; refine (l1Stands_any _ _ _ hsz0).mono ?_; rintro e w' ⟨rfl, rfl⟩))
        all_goals
          cases hx : hasB (sepB sep) l[k]
          · have Hno := Lib.hid (hno.out.step hlt hx)
            clear hx
            by_cases hk0 : k = 0
            · have hk1 : ¬ (0 : Int) < (k : Int) := by omega
              have He : joinV (l.take (k + 1)) sep = joinV (l.take k) sep ++ l[k] := by
                subst hk0
                rw [joinV_zero l sep hlt]
                exact ba_ext (by rw [ByteArray.data_append]; simp [joinV_nil])
              clear hk0
              have hsq : (joinV (l.take k) sep ++ l[k]).size = totS (l.take (k + 1)) + k := by rw [← He, joinV_size l sep hs (k + 1) (by omega)]; omega
              have htk := totS_take l (k + 1)
              have hov : (joinV (l.take k) sep).size + 1 + l[k].size ≤ 3000000 := by simp only [ByteArray.size_append] at hsq; omega
              have He2 := Lib.hid He
              clear He
              by_cases hq : (joinV (l.take k) sep ++ l[k]).size ≤ 4000
              · have hq1 : ¬ (4000 : Int) < ((joinV (l.take k) sep ++ l[k]).size : Int) := by omega
                have hq2 : ¬ (4000 : Int) < ((joinV (l.take k) sep).size : Int) + (l[k].size : Int) := by simp only [ByteArray.size_append] at hq1; omega
                have Hq := Lib.hid hq
                clear hq hsq
                go_wp2_with fail
                go_roundw
                case rel => exact ⟨k + 1, by omega, by go_num, by rw [He2.out], Hno.out, by rw [He2.out]; exact Hq.out, hbd⟩
                case measure => simp [intOf]; omega
              · have hq1 : (4000 : Int) < ((joinV (l.take k) sep ++ l[k]).size : Int) := by omega
                have hq2 : (4000 : Int) < ((joinV (l.take k) sep).size : Int) + (l[k].size : Int) := by simp only [ByteArray.size_append] at hq1; omega
                have Hv := Lib.hid (okJ_long (l := l) (sep := sep) (by omega))
                clear hq hsq
                go_wp2_with fail
                go_ret2
                exact ⟨by rw [Hv.out.1, Hv.out.2]; rfl, hbd⟩
            · have hk1 : (0 : Int) < (k : Int) := by omega
              have He := joinV_succ l sep k (by omega) hlt
              have hsq : (joinV (l.take k) sep ++ sep ++ l[k]).size = totS (l.take (k + 1)) + k := by rw [← He, joinV_size l sep hs (k + 1) (by omega)]; omega
              have htk := totS_take l (k + 1)
              have hov : (joinV (l.take k) sep).size + 1 + l[k].size ≤ 3000000 := by simp only [ByteArray.size_append] at hsq; omega
              have He2 := Lib.hid He
              clear He
              by_cases hq : (joinV (l.take k) sep ++ sep ++ l[k]).size ≤ 4000
              · have hq1 : ¬ (4000 : Int) < ((joinV (l.take k) sep ++ sep ++ l[k]).size : Int) := by omega
                have hq2 : ¬ (4000 : Int) < ((joinV (l.take k) sep).size : Int) + (sep.size : Int) + (l[k].size : Int) := by simp only [ByteArray.size_append] at hq1; omega
                have Hq := Lib.hid hq
                clear hq hsq
                go_wp2_with fail
                go_roundw
                case rel => exact ⟨k + 1, by omega, by go_num, by rw [He2.out], Hno.out, by rw [He2.out]; exact Hq.out, hbd⟩
                case measure => simp [intOf]; omega
              · have hq1 : (4000 : Int) < ((joinV (l.take k) sep ++ sep ++ l[k]).size : Int) := by omega
                have hq2 : (4000 : Int) < ((joinV (l.take k) sep).size : Int) + 1 + (l[k].size : Int) := by simp only [ByteArray.size_append] at hq1; omega
                have hq4 : 4000 < (joinV (l.take k) sep).size + 1 + l[k].size := by omega
                have hq5 : 4000 < (joinV (l.take k) sep).size + sep.size + l[k].size := by omega
                have Hv := Lib.hid (okJ_long (l := l) (sep := sep) (by omega))
                clear hq hsq
                go_wp2_with fail
                go_ret2
                exact ⟨by rw [Hv.out.1, Hv.out.2]; rfl, hbd⟩
          · have Hv := Lib.hid (okJ_has hlt hx)
            clear hx
            go_wp2_with fail
            go_ret2
            exact ⟨by rw [Hv.out.1, Hv.out.2]; rfl, hbd⟩
      · have hkk : k = l.length := by omega
        subst hkk
        have hjs := joinV_size l sep hs l.length (Nat.le_refl _)
        rw [List.take_length] at hjs hkt
        have Hv := Lib.hid (okJ_ok hs hn (fun j hj => hno.out j hj hj) (by omega))
        clear hjs
        go_wp2_with fail
        go_ret2
        exact ⟨by rw [Hv.out.1, Hv.out.2]; simp only [List.take_length]; rfl, hb⟩
  · have Hv := Lib.hid (okJ_short (l := l) (.inl hs))
    have hs' : ¬ (sep.size : Int) = 1 := by omega
    go_enter Try.func5, Try.ntmps5
    go_wp2_with fail
    go_ret2
    exact ⟨by rw [Hv.out.1, Hv.out.2]; rfl, Below.refl _ _⟩

end Go.Proofs.Ytebomppjcaahpaa
