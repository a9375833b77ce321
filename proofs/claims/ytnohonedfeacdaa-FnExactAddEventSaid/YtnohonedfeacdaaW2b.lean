/- Contracts of LastDay and DayOf (l2_records.go), and of what they lean on. -/
import Derived.Test.YtnohonedfeacdaaW2
import Derived.Test.YtnohonedfeacdaaHRecord
namespace Go.Proofs.Ytnohonedfeacdaa
set_option linter.unusedVariables false
set_option linter.unusedSimpArgs false
open Go.RowKit
attribute [local go_sem] Aft.cell

/-- A record's block: its four cells. -/
structure RecBox (W : World) (p : Nat) (id series made : Int) (A : Option Addr) (n c : Nat) : Prop where
  c0 : W.cell? ⟨p, 0, none⟩ = some (.int .i64 id)
  c1 : W.cell? ⟨p, 1, none⟩ = some (.int .i64 series)
  c2 : W.cell? ⟨p, 2, none⟩ = some (.int .i64 made)
  c3 : W.cell? ⟨p, 3, none⟩ = some (.slice A n c)
  lt : p < W.heap.size
theorem RecBox.new (w : World) (id series made : Int) (A : Option Addr) (n c : Nat) (t : TypeId) : RecBox (w.alloc (.cells #[.int .i64 id, .int .i64 series, .int .i64 made, .slice A n c] t)) w.heap.size id series made A n c :=
  ⟨by simp, by simp, by simp, by simp, by simp⟩
theorem RecBox.below {W W' : World} {p : Nat} {id series made : Int} {A : Option Addr} {n c : Nat} (h : RecBox W p id series made A n c) (hb : Below W.heap.size W W') : RecBox W' p id series made A n c :=
  ⟨(hb.cell (p := ⟨_, _, _⟩) h.lt).trans h.c0, (hb.cell (p := ⟨_, _, _⟩) h.lt).trans h.c1, (hb.cell (p := ⟨_, _, _⟩) h.lt).trans h.c2, (hb.cell (p := ⟨_, _, _⟩) h.lt).trans h.c3, Nat.lt_of_lt_of_le h.lt hb.size⟩

/-- the place of the first event of a kind, or the length -/
def idxE (l : List Ev) (k : Int) : Nat := l.findIdx fun e => e.1 == k
def hasE (l : List Ev) (k : Int) : Bool := decide (idxE l k < l.length)
def idxI (l : List Ev) (k : Int) : Int := if hasE l k then (idxE l k : Int) else -1
def dayAt (l : List Ev) (i : Nat) : Int := (l.getD i (0, 0)).2
theorem dayAt_eq {l : List Ev} {i : Nat} (h : i < l.length) : l[i].2 = dayAt l i := by simp [dayAt, List.getD_eq_getElem?_getD, h]
def dayV (made : Int) (l : List Ev) (k : Int) : Int := if k = 0 then made else if hasE l k then dayAt l (idxE l k) else -1
def dayR (made : Int) (l : List Ev) (k : Int) : Int := if k = 0 then made else if hasE l k then dayAt l (idxE l k) else 0
def okD (l : List Ev) (k : Int) : Bool := decide (k = 0) || hasE l k
theorem idxE_at {l : List Ev} {k : Int} (i : Nat) (hi : i < l.length) (he : l[i].1 = k) (hb : ∀ j (hj : j < l.length), j < i → l[j].1 ≠ k) : idxE l k = i := by
  unfold idxE
  rw [List.findIdx_eq hi]
  exact ⟨by simp [he], fun j hj => by simpa using hb j (by omega) hj⟩
theorem idxE_none {l : List Ev} {k : Int} (hb : ∀ j (hj : j < l.length), j < l.length → l[j].1 ≠ k) : idxE l k = l.length := by
  unfold idxE
  rw [List.findIdx_eq_length]
  intro e he
  obtain ⟨j, hj, rfl⟩ := List.mem_iff_getElem.1 he
  simpa using hb j hj hj
theorem hasE_at {l : List Ev} {k : Int} (i : Nat) (hi : i < l.length) (he : l[i].1 = k) (hb : ∀ j (hj : j < l.length), j < i → l[j].1 ≠ k) : hasE l k = true := by
  unfold hasE; rw [idxE_at i hi he hb]; simpa using hi
theorem hasE_none {l : List Ev} {k : Int} (hb : ∀ j (hj : j < l.length), j < l.length → l[j].1 ≠ k) : hasE l k = false := by
  unfold hasE; rw [idxE_none hb]; simp
theorem hasE_lt {l : List Ev} {k : Int} (h : hasE l k = true) : idxE l k < l.length := by simpa [hasE] using h
theorem evB_of_rec {id series made : Int} {l : List Ev} (h : recB id series made l = true) : 0 ≤ made ∧ made ≤ 20000 ∧ l.length ≤ 6 ∧ ∀ i (hi : i < l.length), 1 ≤ l[i].1 ∧ l[i].1 ≤ 9 ∧ 0 ≤ l[i].2 ∧ l[i].2 ≤ 20000 := by
  simp [recB, evsB] at h
  obtain ⟨⟨⟨⟨_, _⟩, h3⟩, h4⟩, h5⟩ := h
  refine ⟨by omega, by omega, h4, fun i hi => ?_⟩
  have h6 := h5 i hi
  simp [evAtB, hi, evB] at h6
  omega
theorem dayV_neg {id series made : Int} {l : List Ev} (k : Int) (h : recB id series made l = true) : decide (dayV made l k < 0) = !okD l k := by
  obtain ⟨h1, _, _, h3⟩ := evB_of_rec h
  unfold dayV okD
  by_cases hk : k = 0
  · simp [hk]; omega
  · cases hh : hasE l k
    · simp [hk]
    · have := h3 _ (hasE_lt hh)
      rw [dayAt_eq (hasE_lt hh)] at this
      simp [hk]; omega
theorem dayV_pos {made : Int} {l : List Ev} {k : Int} (h : okD l k = true) : dayV made l k = dayR made l k := by
  unfold dayV dayR
  simp [okD] at h
  by_cases hk : k = 0
  · simp [hk]
  · simp [hk] at h; simp [hk, h]
theorem dayR_no {made : Int} {l : List Ev} {k : Int} (h : okD l k = false) : dayR made l k = 0 := by
  simp [okD] at h
  simp [dayR, h.1, h.2]
def dayOfF (id series made : Int) (l : List Ev) (k : Int) : Int := if recB id series made l then dayR made l k else 0
def dayOfB (id series made : Int) (l : List Ev) (k : Int) : Bool := recB id series made l && okD l k

set_option maxHeartbeats 1000000 in
theorem l2DayOf_any (id series made : Int) (A : Option Addr) (c : Nat) (l : List Ev) (k : Int) (w : World) (hl : Ls w w.heap.size encEv 2 A l) (hm : l.length ≤ 9223372036854775807) :
    Calls Try.prog 24 #[.agg #[.int .i64 id, .int .i64 series, .int .i64 made, .slice A l.length c], .int .i64 k] w fun e w' => e = .returned (.int .i64 (dayV made l k)) ∧ Below w.heap.size w w' := by
  have hlen : (l.length : Int) ≤ 9223372036854775807 := by omega
  cases hk0 : k == 0
  · have Hk := Lib.hid (show k ≠ 0 by simpa using hk0)
    have hl0 := (hl.alloc (Nat.le_refl _) (.cells #[.int .i64 id, .int .i64 series, .int .i64 made, .slice A l.length c] 30)).more (B' := (w.alloc (.cells #[.int .i64 id, .int .i64 series, .int .i64 made, .slice A l.length c] 30)).heap.size) (by simp)
    have hbx := RecBox.new w id series made A l.length c 30
    have hB := blw_alloc (Below.refl w.heap.size w) (.cells #[.int .i64 id, .int .i64 series, .int .i64 made, .slice A l.length c] 30)
    go_enter Try.func24, Try.ntmps24
    go_wp2_with fail
    generalize (w.alloc (.cells #[.int .i64 id, .int .i64 series, .int .i64 made, .slice A l.length c] 30)) = W0 at *
    go_loopw [5] (fun i wr => ∃ j : Nat, j ≤ l.length ∧ i = .int .i64 j ∧ Below W0.heap.size W0 wr ∧ Hid (∀ q (hq : q < l.length), q < j → l[q].1 ≠ k)) (fun i _ => l.length - (intOf i).toNat)
    case atStart => exact ⟨0, Nat.zero_le _, rfl, Below.refl _ _, fun q _ hq => absurd hq (Nat.not_lt_zero _)⟩
    case round =>
      obtain ⟨j, hj, rfl, hb, hall⟩ := hrel
      obtain ⟨r0, r1, r2, r3, rl⟩ := hbx.below hb
      by_cases hlt : j < l.length
      · obtain ⟨b, off, rfl, hbb, hc0, hc1⟩ := (hl0.below hb).at_Event hlt
        cases hx : l[j].1 == k
        · have Hx := Lib.hid (show l[j].1 ≠ k by simpa using hx)
          go_wp2_with fail
          go_roundw
          case rel => exact ⟨j + 1, by omega, by go_num, hb, fun q hq hqj => by rcases Nat.lt_succ_iff_lt_or_eq.1 hqj with h | rfl; exact hall.out q hq h; exact Hx.out⟩
          case measure => simp [intOf]; omega
        · have Hx := Lib.hid (show l[j].1 = k by simpa using hx)
          have Hv : Hid (dayV made l k = l[j].2) := by
            unfold Hid dayV
            rw [if_neg Hk.out, hasE_at j hlt Hx.out hall.out, idxE_at j hlt Hx.out hall.out, dayAt_eq hlt]; rfl
          go_wp2_with fail
          go_ret
          exact ⟨ret_int Hv.out.symm, hB.trans (hb.mono hB.size)⟩
      · have hkk : j = l.length := by omega
        subst hkk
        have Hv : Hid (dayV made l k = -1) := by
          unfold Hid dayV
          rw [if_neg Hk.out, hasE_none hall.out]; rfl
        go_wp2_with fail
        go_ret
        exact ⟨ret_int Hv.out.symm, hB.trans (hb.mono hB.size)⟩
  · have Hv : Hid (dayV made l k = made) := by simp at hk0; simp [Hid, dayV, hk0]
    go_enter Try.func24, Try.ntmps24
    go_wp2_with fail
    go_ret
    exact ⟨ret_int Hv.out.symm, blw_alloc (Below.refl _ _) _⟩




end Go.Proofs.Ytnohonedfeacdaa
