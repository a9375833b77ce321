/- Contracts of LastDay and DayOf (l2_records.go), and of what they lean on. -/
import Derived.Test.YtjbklopkginegaaW2
import Derived.Test.YtjbklopkginegaaHRecord
namespace Go.Proofs.Ytjbklopkginegaa
set_option linter.unusedVariables false
set_option linter.unusedSimpArgs false
open Go.RowKit
attribute [local go_sem] Aft.cell

/-- A record's block: its four cells. -/
structure RecBox (W : World) (p : Nat) (id series made : Int) (A : Option Addr) (n c : Nat) : Prop where
  c0 : W.cell? ⟨p, 0, none⟩ = some (.int .i64 id)
  c1 : W.cell? ⟨p, 1, none⟩ = some (.int .i64 series)
  c2 : W.cell? ⟨p, 2, none⟩ = some (.int .i64 made)
  c3 : W.cell? ⟨p, 3, none⟩ = some (.slice A n c)
  lt : p < W.heap.size
theorem RecBox.new (w : World) (id series made : Int) (A : Option Addr) (n c : Nat) (t : TypeId) : RecBox (w.alloc (.cells #[.int .i64 id, .int .i64 series, .int .i64 made, .slice A n c] t)) w.heap.size id series made A n c :=
  ⟨by simp, by simp, by simp, by simp, by simp⟩
theorem RecBox.below {W W' : World} {p : Nat} {id series made : Int} {A : Option Addr} {n c : Nat} (h : RecBox W p id series made A n c) (hb : Below W.heap.size W W') : RecBox W' p id series made A n c :=
  ⟨(hb.cell (p := ⟨_, _, _⟩) h.lt).trans h.c0, (hb.cell (p := ⟨_, _, _⟩) h.lt).trans h.c1, (hb.cell (p := ⟨_, _, _⟩) h.lt).trans h.c2, (hb.cell (p := ⟨_, _, _⟩) h.lt).trans h.c3, Nat.lt_of_lt_of_le h.lt hb.size⟩

/-- the place of the first event of a kind, or the length -/
def idxE (l : List Ev) (k : Int) : Nat := l.findIdx fun e => e.1 == k
def hasE (l : List Ev) (k : Int) : Bool := decide (idxE l k < l.length)
def idxI (l : List Ev) (k : Int) : Int := if hasE l k then (idxE l k : Int) else -1
def dayAt (l : List Ev) (i : Nat) : Int := (l.getD i (0, 0)).2
theorem dayAt_eq {l : List Ev} {i : Nat} (h : i < l.length) : l[i].2 = dayAt l i := by simp [dayAt, List.getD_eq_getElem?_getD, h]
def dayV (made : Int) (l : List Ev) (k : Int) : Int := if k = 0 then made else if hasE l k then dayAt l (idxE l k) else -1
def dayR (made : Int) (l : List Ev) (k : Int) : Int := if k = 0 then made else if hasE l k then dayAt l (idxE l k) else 0
def okD (l : List Ev) (k : Int) : Bool := decide (k = 0) || hasE l k
theorem idxE_at {l : List Ev} {k : Int} (i : Nat) (hi : i < l.length) (he : l[i].1 = k) (hb : ∀ j (hj : j < l.length), j < i → l[j].1 ≠ k) : idxE l k = i := by
  unfold idxE
  rw [List.findIdx_eq hi]
  exact ⟨by simp [he], fun j hj => by simpa using hb j (by omega) hj⟩
theorem idxE_none {l : List Ev} {k : Int} (hb : ∀ j (hj : j < l.length), j < l.length → l[j].1 ≠ k) : idxE l k = l.length := by
  unfold idxE
  rw [List.findIdx_eq_length]
  intro e he
  obtain ⟨j, hj, rfl⟩ := List.mem_iff_getElem.1 he
  simpa using hb j hj hj
theorem hasE_at {l : List Ev} {k : Int} (i : Nat) (hi : i < l.length) (he : l[i].1 = k) (hb : ∀ j (hj : j < l.length), j < i → l[j].1 ≠ k) : hasE l k = true := by
  unfold hasE; rw [idxE_at i hi he hb]; simpa using hi
theorem hasE_none {l : List Ev} {k : Int} (hb : ∀ j (hj : j < l.length), j < l.length → l[j].1 ≠ k) : hasE l k = false := by
  unfold hasE; rw [idxE_none hb]; simp
theorem hasE_lt {l : List Ev} {k : Int} (h : hasE l k = true) : idxE l k < l.length := by simpa [hasE] using h
theorem evB_of_rec {id series made : Int} {l : List Ev} (h : recB id series made l = true) : 0 ≤ made ∧ made ≤ 20000 ∧ l.length ≤ 6 ∧ ∀ i (hi : i < l.length), 1 ≤ l[i].1 ∧ l[i].1 ≤ 9 ∧ 0 ≤ l[i].2 ∧ l[i].2 ≤ 20000 := by
  simp [recB, evsB] at h
  obtain ⟨⟨⟨⟨_, _⟩, h3⟩, h4⟩, h5⟩ := h
  refine ⟨by omega, by omega, h4, fun i hi => ?_⟩
  have h6 := h5 i hi
  simp [evAtB, hi, evB] at h6
  omega
theorem dayV_neg {id series made : Int} {l : List Ev} (k : Int) (h : recB id series made l = true) : decide (dayV made l k < 0) = !okD l k := by
  obtain ⟨h1, _, _, h3⟩ := evB_of_rec h
  unfold dayV okD
  by_cases hk : k = 0
  · simp [hk]; omega
  · cases hh : hasE l k
    · simp [hk]
    · have := h3 _ (hasE_lt hh)
      rw [dayAt_eq (hasE_lt hh)] at this
      simp [hk]; omega
theorem dayV_pos {made : Int} {l : List Ev} {k : Int} (h : okD l k = true) : dayV made l k = dayR made l k := by
  unfold dayV dayR
  simp [okD] at h
  by_cases hk : k = 0
  · simp [hk]
  · simp [hk] at h; simp [hk, h]
theorem dayR_no {made : Int} {l : List Ev} {k : Int} (h : okD l k = false) : dayR made l k = 0 := by
  simp [okD] at h
  simp [dayR, h.1, h.2]
def dayOfF (id series made : Int) (l : List Ev) (k : Int) : Int := if recB id series made l then dayR made l k else 0
def dayOfB (id series made : Int) (l : List Ev) (k : Int) : Bool := recB id series made l && okD l k

set_option maxHeartbeats 1000000 in
theorem l2DayOf_any (id series made : Int) (A : Option Addr) (c : Nat) (l : List Ev) (k : Int) (w : World) (hl : Ls w w.heap.size encEv 2 A l) (hm : l.length ≤ 9223372036854775807) :
    Calls Try.prog 57 #[.agg #[.int .i64 id, .int .i64 series, .int .i64 made, .slice A l.length c], .int .i64 k] w fun e w' => e = .returned (.int .i64 (dayV made l k)) ∧ Below w.heap.size w w' := by
  have hlen : (l.length : Int) ≤ 9223372036854775807 := by omega
  cases hk0 : k == 0
  · have Hk := Lib.hid (show k ≠ 0 by simpa using hk0)
    have hl0 := (hl.alloc (Nat.le_refl _) (.cells #[.int .i64 id, .int .i64 series, .int .i64 made, .slice A l.length c] 30)).more (B' := (w.alloc (.cells #[.int .i64 id, .int .i64 series, .int .i64 made, .slice A l.length c] 30)).heap.size) (by simp)
    have hbx := RecBox.new w id series made A l.length c 30
    have hB := blw_alloc (Below.refl w.heap.size w) (.cells #[.int .i64 id, .int .i64 series, .int .i64 made, .slice A l.length c] 30)
    go_enter Try.func57, Try.ntmps57
    go_wp2_with fail
    generalize (w.alloc (.cells #[.int .i64 id, .int .i64 series, .int .i64 made, .slice A l.length c] 30)) = W0 at *
    go_loopw [5] (fun i wr => ∃ j : Nat, j ≤ l.length ∧ i = .int .i64 j ∧ Below W0.heap.size W0 wr ∧ Hid (∀ q (hq : q < l.length), q < j → l[q].1 ≠ k)) (fun i _ => l.length - (intOf i).toNat)
    case atStart => exact ⟨0, Nat.zero_le _, rfl, Below.refl _ _, fun q _ hq => absurd hq (Nat.not_lt_zero _)⟩
    case round =>
      obtain ⟨j, hj, rfl, hb, hall⟩ := hrel
      obtain ⟨r0, r1, r2, r3, rl⟩ := hbx.below hb
      by_cases hlt : j < l.length
      · obtain ⟨b, off, rfl, hbb, hc0, hc1⟩ := (hl0.below hb).at_Event hlt
        cases hx : l[j].1 == k
        · have Hx := Lib.hid (show l[j].1 ≠ k by simpa using hx)
          go_wp2_with fail
          go_roundw
          case rel => exact ⟨j + 1, by omega, by go_num, hb, fun q hq hqj => by rcases Nat.lt_succ_iff_lt_or_eq.1 hqj with h | rfl; exact hall.out q hq h; exact Hx.out⟩
          case measure => simp [intOf]; omega
        · have Hx := Lib.hid (show l[j].1 = k by simpa using hx)
          have Hv : Hid (dayV made l k = l[j].2) := by
            unfold Hid dayV
            rw [if_neg Hk.out, hasE_at j hlt Hx.out hall.out, idxE_at j hlt Hx.out hall.out, dayAt_eq hlt]; rfl
          go_wp2_with fail
          go_ret
          exact ⟨ret_int Hv.out.symm, hB.trans (hb.mono hB.size)⟩
      · have hkk : j = l.length := by omega
        subst hkk
        have Hv : Hid (dayV made l k = -1) := by
          unfold Hid dayV
          rw [if_neg Hk.out, hasE_none hall.out]; rfl
        go_wp2_with fail
        go_ret
        exact ⟨ret_int Hv.out.symm, hB.trans (hb.mono hB.size)⟩
  · have Hv : Hid (dayV made l k = made) := by simp at hk0; simp [Hid, dayV, hk0]
    go_enter Try.func57, Try.ntmps57
    go_wp2_with fail
    go_ret
    exact ⟨ret_int Hv.out.symm, blw_alloc (Below.refl _ _) _⟩

set_option maxHeartbeats 400000 in
theorem eventAt1_any (x0 x1 k : Int) (p : Nat) (w : World) (hp : w.cell? ⟨p, 0, none⟩ = some (.int .i64 k)) (hlt : p < w.heap.size) :
    Calls Try.prog 86 #[.agg #[.int .i64 x0, .int .i64 x1], .pointer (some ⟨p, 0, none⟩)] w fun e w' => e = .returned (.bool (x0 == k)) ∧ Below w.heap.size w w' := by
  go_enter Try.func86, Try.ntmps86
  go_wp2_with fail
  go_ret
  exact ⟨rfl, blw_alloc (Below.refl _ _) _⟩

set_option maxHeartbeats 1000000 in
theorem IndexFunc_eventAt (A : Option Addr) (c : Nat) (l : List Ev) (k : Int) (p : Nat) (w : World) (hl : Ls w w.heap.size encEv 2 A l) (hm : l.length ≤ 9223372036854775807) (hp : w.cell? ⟨p, 0, none⟩ = some (.int .i64 k)) (hlt : p < w.heap.size) :
    Calls Try.prog 85 #[.slice A l.length c, .func (.func 86) #[] #[.pointer (some ⟨p, 0, none⟩)]] w fun e w' => e = .returned (.int .i64 (idxI l k)) ∧ Below w.heap.size w w' := by
  have hlen : (l.length : Int) ≤ 9223372036854775807 := by omega
  go_enter Try.func85, Try.ntmps85
  go_wp2_with fail
  go_loopw [8] (fun i wr => ∃ j : Nat, j ≤ l.length ∧ i = .int .i64 j ∧ Below w.heap.size w wr ∧ Hid (∀ q (hq : q < l.length), q < j → l[q].1 ≠ k)) (fun i _ => l.length - (intOf i).toNat)
  case atStart => exact ⟨0, Nat.zero_le _, rfl, Below.refl _ _, fun q _ hq => absurd hq (Nat.not_lt_zero _)⟩
  case round =>
    obtain ⟨j, hj, rfl, hb, hall⟩ := hrel
    have hp' := (hb.cell (p := ⟨_, _, _⟩) hlt).trans hp
    have hlt' : p < wr.heap.size := Nat.lt_of_lt_of_le hlt hb.size
    by_cases hjl : j < l.length
    · obtain ⟨b, off, rfl, hbb, hc0, hc1⟩ := (hl.below hb).at_Event hjl
      cases hx : l[j].1 == k
      · have Hx := Lib.hid (show l[j].1 ≠ k by simpa using hx)
        go_wp2_with (go_at_call 86; refine (eventAt1_any _ _ k p _ hp' hlt').mono ?_; rw [hx]; rintro e w1 ⟨rfl, hb1⟩)
        go_roundw
        case rel => exact ⟨j + 1, by omega, by go_num, blw hb hb1, fun q hq hqj => by rcases Nat.lt_succ_iff_lt_or_eq.1 hqj with h | rfl; exact hall.out q hq h; exact Hx.out⟩
        case measure => simp [intOf]; omega
      · have Hx := Lib.hid (show l[j].1 = k by simpa using hx)
        have Hv : Hid (idxI l k = (j : Int)) := by
          unfold Hid idxI
          rw [hasE_at j hjl Hx.out hall.out, idxE_at j hjl Hx.out hall.out]; rfl
        go_wp2_with (go_at_call 86; refine (eventAt1_any _ _ k p _ hp' hlt').mono ?_; rw [hx]; rintro e w1 ⟨rfl, hb1⟩)
        go_ret
        exact ⟨ret_int Hv.out.symm, blw hb hb1⟩
    · have hkk : j = l.length := by omega
      subst hkk
      have Hv : Hid (idxI l k = -1) := by
        unfold Hid idxI
        rw [hasE_none hall.out]; rfl
      go_wp2_with fail
      go_ret
      exact ⟨ret_int Hv.out.symm, hb⟩

set_option maxHeartbeats 400000 in
theorem eventAt_any (id series made : Int) (A : Option Addr) (c : Nat) (l : List Ev) (k : Int) (w : World) (hl : Ls w w.heap.size encEv 2 A l) (hm : l.length ≤ 9223372036854775807) :
    Calls Try.prog 60 #[.agg #[.int .i64 id, .int .i64 series, .int .i64 made, .slice A l.length c], .int .i64 k] w fun e w' => e = .returned (.int .i64 (idxI l k)) ∧ Below w.heap.size w w' := by
  go_enter Try.func60, Try.ntmps60
  go_wp2_with fail
  refine (IndexFunc_eventAt _ _ l k (w.heap.size + 1) _ (((hl.alloc (Nat.le_refl _) _).alloc (by simp) _).more (by simp; omega)) hm (by simp) (by simp)).mono ?_
  rintro e w1 ⟨rfl, hb1⟩
  go_wp2_with fail
  go_ret
  exact ⟨rfl, blw (blw_alloc (blw_alloc (Below.refl _ _) _) _) hb1⟩

set_option maxHeartbeats 1000000 in
theorem dayOf_any (id series made : Int) (A : Option Addr) (c : Nat) (l : List Ev) (k : Int) (w : World) (hl : Ls w w.heap.size encEv 2 A l) (hm : l.length ≤ 9223372036854775807) :
    Calls Try.prog 58 #[.agg #[.int .i64 id, .int .i64 series, .int .i64 made, .slice A l.length c], .int .i64 k] w fun e w' => e = .returned (.tuple #[.int .i64 (dayR made l k), .bool (okD l k)]) ∧ Below w.heap.size w w' := by
  have hlen : (l.length : Int) ≤ 9223372036854775807 := by omega
  cases hk0 : k == 0
  · have hl0 := (hl.alloc (Nat.le_refl _) (.cells #[.int .i64 id, .int .i64 series, .int .i64 made, .slice A l.length c] 30)).more (B' := (w.alloc (.cells #[.int .i64 id, .int .i64 series, .int .i64 made, .slice A l.length c] 30)).heap.size) (by simp)
    have hbx := RecBox.new w id series made A l.length c 30
    have hB := blw_alloc (Below.refl w.heap.size w) (.cells #[.int .i64 id, .int .i64 series, .int .i64 made, .slice A l.length c] 30)
    have Hk := Lib.hid (show k ≠ 0 by simpa using hk0)
    go_enter Try.func58, Try.ntmps58
    go_wp2_with fail
    generalize (w.alloc (.cells #[.int .i64 id, .int .i64 series, .int .i64 made, .slice A l.length c] 30)) = W0 at *
    refine (eventAt_any _ _ _ _ _ l _ _ hl0 hm).mono ?_
    cases hh : hasE l k
    · have Hi : Hid (idxI l k = -1) := by simp [Hid, idxI, hh]
      have Hv : Hid (dayR made l k = 0 ∧ okD l k = false) := by
        have := Hk.out
        simp [Hid, dayR, okD, hh, this]
      rw [Hi.out]
      rintro e w1 ⟨rfl, hb1⟩
      go_wp2_with fail
      go_ret2
      exact ⟨by rw [Hv.out.1, Hv.out.2]; rfl, hB.trans (hb1.mono hB.size)⟩
    · have hi := hasE_lt hh
      have Hi : Hid (idxI l k = (idxE l k : Int)) := by simp [Hid, idxI, hh]
      have Hv : Hid (dayR made l k = l[idxE l k].2 ∧ okD l k = true) := by
        have := Hk.out
        rw [dayAt_eq hi]
        simp [Hid, dayR, okD, hh, this]
      rw [Hi.out]
      rintro e w1 ⟨rfl, hb1⟩
      obtain ⟨r0, r1, r2, r3, rl⟩ := hbx.below hb1
      obtain ⟨b, off, rfl, hbb, hc0, hc1⟩ := (hl0.below hb1).at_Event hi
      clear hh
      generalize hie : idxE l k = ie at *
      have Hie := Lib.hid hie
      clear hie
      go_wp2_with fail
      go_ret2
      exact ⟨by rw [Hv.out.1, Hv.out.2]; rfl, hB.trans (hb1.mono hB.size)⟩
  · have Hv : Hid (dayR made l k = made ∧ okD l k = true) := by simp at hk0; simp [Hid, dayR, okD, hk0]
    go_enter Try.func58, Try.ntmps58
    go_wp2_with fail
    go_ret2
    exact ⟨by rw [Hv.out.1, Hv.out.2]; rfl, blw_alloc (Below.refl _ _) _⟩

set_option maxHeartbeats 1000000 in
theorem c_spec_DayOf (id series made : Int) (A : Option Addr) (c : Nat) (l : List Ev) (k : Int) (w : World) (hl : Ls w w.heap.size encEv 2 A l) (hm : l.length ≤ 1048576) :
    Calls Try.prog 18 #[.agg #[.int .i64 id, .int .i64 series, .int .i64 made, .slice A l.length c], .int .i64 k] w fun e w' => e = .returned (.tuple #[.int .i64 (dayOfF id series made l k), .bool (dayOfB id series made l k)]) ∧ Below w.heap.size w w' := by
  have hm' : l.length ≤ 9223372036854775807 := by omega
  have hl0 := (hl.alloc (Nat.le_refl _) (.cells #[.int .i64 id, .int .i64 series, .int .i64 made, .slice A l.length c] 30)).more (B' := (w.alloc (.cells #[.int .i64 id, .int .i64 series, .int .i64 made, .slice A l.length c] 30)).heap.size) (by simp)
  have hbx := RecBox.new w id series made A l.length c 30
  have hB := blw_alloc (Below.refl w.heap.size w) (.cells #[.int .i64 id, .int .i64 series, .int .i64 made, .slice A l.length c] 30)
  cases h1 : recB id series made l
  · have Hv : Hid (dayOfF id series made l k = 0 ∧ dayOfB id series made l k = false) := by simp [Hid, dayOfF, dayOfB, h1]
    go_enter Try.func18, Try.ntmps18
    go_wp2_with fail
    generalize (w.alloc (.cells #[.int .i64 id, .int .i64 series, .int .i64 made, .slice A l.length c] 30)) = W0 at *
    refine (l2Record_any _ _ _ _ _ l _ hl0 hm').mono ?_
    rw [h1]
    rintro e w1 ⟨rfl, hb1⟩
    go_wp2_with fail
    go_ret2
    exact ⟨by rw [Hv.out.1, Hv.out.2]; rfl, hB.trans (hb1.mono hB.size)⟩
  · have hd := dayV_neg k h1
    go_enter Try.func18, Try.ntmps18
    go_wp2_with fail
    generalize (w.alloc (.cells #[.int .i64 id, .int .i64 series, .int .i64 made, .slice A l.length c] 30)) = W0 at *
    refine (l2Record_any _ _ _ _ _ l _ hl0 hm').mono ?_
    rw [h1]
    rintro e w1 ⟨rfl, hb1⟩
    have hB1 := hB.trans (hb1.mono hB.size)
    have hl1 := (hl0.below hb1).more hb1.size
    obtain ⟨r0, r1, r2, r3, rl⟩ := hbx.below hb1
    cases hh : okD l k
    · have Hv : Hid (dayOfF id series made l k = 0 ∧ dayOfB id series made l k = false) := by simp [Hid, dayOfF, dayOfB, h1, hh, dayR_no hh]
      have hd' : decide (dayV made l k < 0) = true := by rw [hd, hh]; rfl
      clear hd
      go_wp2_with fail
      refine (l2DayOf_any _ _ _ _ _ l _ _ hl1 hm').mono ?_
      generalize dayV made l k = dv at *
      rintro e w2 ⟨rfl, hb2⟩
      go_wp2_with fail
      go_ret2
      exact ⟨by rw [Hv.out.1, Hv.out.2]; rfl, hB1.trans (hb2.mono hB1.size)⟩
    · have Hv : Hid (dayOfF id series made l k = dayV made l k ∧ dayOfB id series made l k = true) := by simp [Hid, dayOfF, dayOfB, h1, hh, dayV_pos hh]
      have hd' : decide (dayV made l k < 0) = false := by rw [hd, hh]; rfl
      clear hd
      go_wp2_with fail
      refine (l2DayOf_any _ _ _ _ _ l _ _ hl1 hm').mono ?_
      rintro e w2 ⟨rfl, hb2⟩
      obtain ⟨r0, r1, r2, r3, rl⟩ := (hbx.below hb1).below hb2
      go_wp2_with fail
      refine (l2DayOf_any _ _ _ _ _ l _ _ ((hl1.below hb2).more hb2.size) hm').mono ?_
      rintro e w3 ⟨rfl, hb3⟩
      go_wp2_with fail
      go_ret2
      exact ⟨by rw [Hv.out.1, Hv.out.2]; rfl, (hB1.trans (hb2.mono hB1.size)).trans (hb3.mono (by have := hB1.size; have := hb2.size; omega))⟩

set_option maxHeartbeats 1000000 in
theorem c_impl_DayOf (id series made : Int) (A : Option Addr) (c : Nat) (l : List Ev) (k : Int) (w : World) (hl : Ls w w.heap.size encEv 2 A l) (hm : l.length ≤ 1048576) :
    Calls Try.prog 19 #[.agg #[.int .i64 id, .int .i64 series, .int .i64 made, .slice A l.length c], .int .i64 k] w fun e w' => e = .returned (.tuple #[.int .i64 (dayOfF id series made l k), .bool (dayOfB id series made l k)]) ∧ Below w.heap.size w w' := by
  have hm' : l.length ≤ 9223372036854775807 := by omega
  have hl0 := (hl.alloc (Nat.le_refl _) (.cells #[.int .i64 id, .int .i64 series, .int .i64 made, .slice A l.length c] 30)).more (B' := (w.alloc (.cells #[.int .i64 id, .int .i64 series, .int .i64 made, .slice A l.length c] 30)).heap.size) (by simp)
  have hbx := RecBox.new w id series made A l.length c 30
  have hB := blw_alloc (Below.refl w.heap.size w) (.cells #[.int .i64 id, .int .i64 series, .int .i64 made, .slice A l.length c] 30)
  cases h1 : recB id series made l
  · have Hv : Hid (dayOfF id series made l k = 0 ∧ dayOfB id series made l k = false) := by simp [Hid, dayOfF, dayOfB, h1]
    go_enter Try.func19, Try.ntmps19
    go_wp2_with fail
    generalize (w.alloc (.cells #[.int .i64 id, .int .i64 series, .int .i64 made, .slice A l.length c] 30)) = W0 at *
    refine (IsRecord_any _ _ _ _ _ l _ hl0 hm').mono ?_
    rw [h1]
    rintro e w1 ⟨rfl, hb1⟩
    go_wp2_with fail
    go_ret2
    exact ⟨by rw [Hv.out.1, Hv.out.2]; rfl, hB.trans (hb1.mono hB.size)⟩
  · have Hv : Hid (dayOfF id series made l k = dayR made l k ∧ dayOfB id series made l k = okD l k) := by simp [Hid, dayOfF, dayOfB, h1]
    go_enter Try.func19, Try.ntmps19
    go_wp2_with fail
    generalize (w.alloc (.cells #[.int .i64 id, .int .i64 series, .int .i64 made, .slice A l.length c] 30)) = W0 at *
    refine (IsRecord_any _ _ _ _ _ l _ hl0 hm').mono ?_
    rw [h1]
    rintro e w1 ⟨rfl, hb1⟩
    have hB1 := hB.trans (hb1.mono hB.size)
    obtain ⟨r0, r1, r2, r3, rl⟩ := hbx.below hb1
    go_wp2_with fail
    refine (dayOf_any _ _ _ _ _ l _ _ ((hl0.below hb1).more hb1.size) hm').mono ?_
    rintro e w2 ⟨rfl, hb2⟩
    go_wp2_with fail
    go_ret2
    exact ⟨by rw [Hv.out.1, Hv.out.2]; rfl, hB1.trans (hb2.mono hB1.size)⟩

end Go.Proofs.Ytjbklopkginegaa
