/- Contracts of deciding (l6_periods.go). -/
import Derived.Test.YtjbklopkginegaaW6a
namespace Go.Proofs.Ytjbklopkginegaa
set_option linter.unusedVariables false
set_option linter.unusedSimpArgs false
open Go.RowKit
attribute [local go_sem] Aft.cell

def top0 (x : Int) : Int := max x 0
def posB (x : Int) : Bool := decide (0 ≤ x)

/-- what stands while the rules are gone through: n0 the size of the heap ahead of the call, p the block of the best rule so far -/
structure DecI (w0 : World) (n0 p : Nat) (id series made : Int) (A : Option Addr) (c : Nat) (l : List Ev) (A1 : Option Addr) (fs : List RuleD) (t : TypeId) (b : RuleD) (wr : World) : Prop where
  below : Below n0 w0 wr
  box : RecBox wr n0 id series made A l.length c
  res : Blk wr (n0 + 1) t (cellsR rule0)
  best : Blk wr p t (cellsR b)
  evs : Ls wr wr.heap.size encEv 2 A l
  rules : Ls wr wr.heap.size encRule 4 A1 fs
theorem DecI.on {w' : World} {w0 wr : World} {n0 p c : Nat} {id series made : Int} {A A1 : Option Addr} {l : List Ev} {fs : List RuleD} {t : TypeId} {b : RuleD} (h : DecI w0 n0 p id series made A c l A1 fs t b wr) (hb : Below wr.heap.size wr w') : DecI w0 n0 p id series made A c l A1 fs t b w' :=
  ⟨h.below.trans (hb.mono (Nat.le_of_lt h.box.lt)), h.box.below hb, h.res.below hb h.res.lt, h.best.below hb h.best.lt, (h.evs.below hb).more hb.size, (h.rules.below hb).more hb.size⟩
theorem DecI.alloc {w0 wr : World} {n0 p c : Nat} {id series made : Int} {A A1 : Option Addr} {l : List Ev} {fs : List RuleD} {t : TypeId} {b : RuleD} (h : DecI w0 n0 p id series made A c l A1 fs t b wr) (o : Obj) : DecI w0 n0 p id series made A c l A1 fs t b (wr.alloc o) := h.on (blw_alloc (Below.refl _ _) o)
theorem DecI.drew {w0 wr : World} {n0 p c : Nat} {id series made : Int} {A A1 : Option Addr} {l : List Ev} {fs : List RuleD} {t : TypeId} {b : RuleD} (h : DecI w0 n0 p id series made A c l A1 fs t b wr) : DecI w0 n0 p id series made A c l A1 fs t b wr.drew := h.on (Below.refl _ _).drew
theorem Wr.one {w : World} {g : Nat} (o : Nat) (u : Value) {w0 : World} {S : Nat → Prop} (h : Wr S w0 w) (hS : S g) : Wr S w0 (w.setCell ⟨g, o, none⟩ u) := h.setCell (.inl hS) u
theorem Ls.wr_ne {α : Type} {en : α → List Value} {sz : Nat} {A : Option Addr} {l : List α} {S : Nat → Prop} {a b : World} (h : Ls a a.heap.size en sz A l) (hw : Wr S a b) (hs : 0 < l.length → ∀ q, blkOf A q → ¬ S q) : Ls b b.heap.size en sz A l := fun hn => by
  obtain ⟨g, off, e, hb, hc⟩ := h hn
  exact ⟨g, off, e, Nat.lt_of_lt_of_le hb hw.size, fun i hi j u hu => (hw.cell hb (hs hn g ⟨off, e⟩)).trans (hc i hi j u hu)⟩
theorem DecI.set {w0 wr : World} {n0 p c : Nat} {id series made : Int} {A A1 : Option Addr} {l : List Ev} {fs : List RuleD} {t : TypeId} {b : RuleD} (h : DecI w0 n0 p id series made A c l A1 fs t b wr) (hp : n0 + 1 < p) (hA : 0 < l.length → ∀ q, blkOf A q → q ≠ p) (hA1 : 0 < fs.length → ∀ q, blkOf A1 q → q ≠ p) (r : RuleD) :
    DecI w0 n0 p id series made A c l A1 fs t r ((((wr.setCell ⟨p, 0, none⟩ (.int .i64 r.s)).setCell ⟨p, 1, none⟩ (.int .i64 r.e)).setCell ⟨p, 2, none⟩ (.int .i64 r.d)).setCell ⟨p, 3, none⟩ (.int .i64 r.a)) := by
  have hw : Wr (fun q => q = p) wr ((((wr.setCell ⟨p, 0, none⟩ (.int .i64 r.s)).setCell ⟨p, 1, none⟩ (.int .i64 r.e)).setCell ⟨p, 2, none⟩ (.int .i64 r.d)).setCell ⟨p, 3, none⟩ (.int .i64 r.a)) :=
    ((((Wr.refl (fun q => q = p) wr).one 0 _ rfl).one 1 _ rfl).one 2 _ rfl).one 3 _ rfl
  have hb := hw.below (B := p) (by have := h.best.lt; omega) (fun k hk => by omega)
  exact ⟨h.below.trans (hb.mono (by omega)),
    ⟨(hw.cell h.box.lt (by omega)).trans h.box.c0, (hw.cell h.box.lt (by omega)).trans h.box.c1, (hw.cell h.box.lt (by omega)).trans h.box.c2, (hw.cell h.box.lt (by omega)).trans h.box.c3, Nat.lt_of_lt_of_le h.box.lt hw.size⟩,
    h.res.wr hw (by omega), h.best.setR r, h.evs.wr_ne hw hA, h.rules.wr_ne hw hA1⟩
theorem Ls.blk_lt {α : Type} {en : α → List Value} {sz : Nat} {w : World} {B : Nat} {A : Option Addr} {l : List α} (h : Ls w B en sz A l) (hn : 0 < l.length) : ∀ q, blkOf A q → q < B := by
  rintro q ⟨o, rfl⟩
  obtain ⟨g, off, e, hg, _⟩ := h hn
  simp at e; omega

theorem dec_cases (e due a ba : Int) :
    (e < 0) ∨ (0 ≤ e ∧ due < e ∧ betterB e due a ba = true) ∨ (0 ≤ e ∧ ¬ due < e ∧ (e == due) = false ∧ betterB e due a ba = false) ∨
    (0 ≤ e ∧ ¬ due < e ∧ (e == due) = true ∧ a < ba ∧ betterB e due a ba = true) ∨ (0 ≤ e ∧ ¬ due < e ∧ (e == due) = true ∧ ¬ a < ba ∧ betterB e due a ba = false) := by
  unfold betterB
  by_cases h0 : e < 0
  · exact .inl h0
  · by_cases h1 : due < e
    · exact .inr (.inl ⟨by omega, h1, by simp [h1]⟩)
    · by_cases h2 : e = due
      · by_cases h3 : a < ba
        · exact .inr (.inr (.inr (.inl ⟨by omega, h1, by simp [h2], h3, by simp [h1, h2, h3]⟩)))
        · exact .inr (.inr (.inr (.inr ⟨by omega, h1, by simp [h2], h3, by simp [h1, h2, h3]⟩)))
      · exact .inr (.inr (.inl ⟨by omega, h1, by simp [h2], by simp [h1, h2]⟩))

set_option maxHeartbeats 4000000 in
theorem deciding_any (id series made : Int) (A : Option Addr) (c : Nat) (l : List Ev) (A' : Option Addr) (c' : Nat) (rs : List RuleD) (w : World) (hl : Ls w w.heap.size encEv 2 A l) (hr : Ls w w.heap.size encRule 4 A' rs) (h1 : recB id series made l = true) (h2 : schedB rs = true) :
    Calls Try.prog 75 #[.agg #[.int .i64 id, .int .i64 series, .int .i64 made, .slice A l.length c], .slice A' rs.length c'] w fun e w' => e = .returned (.tuple #[.agg #[.int .i64 (decR made l (forS rs series)).s, .int .i64 (decR made l (forS rs series)).e, .int .i64 (decR made l (forS rs series)).d, .int .i64 (decR made l (forS rs series)).a], .int .i64 (top0 (decD made l (forS rs series))), .bool (posB (decD made l (forS rs series)))]) ∧ Below w.heap.size w w' := by
  have hm : l.length ≤ 6 := (evB_of_rec h1).2.2.1
  have hmr : rs.length ≤ 8 := by simp [schedB] at h2; exact h2.2
  have hle := forS_le rs series
  have hfb := fun r (hr : r ∈ forS rs series) => (forS_bd h2 r hr).1
  have Hfb := Lib.hid hfb
  clear hfb
  have hlen : ((forS rs series).length : Int) ≤ 8 := by omega
  have hI : DecI w w.heap.size (w.heap.size + 1 + 1) id series made A c l none [] 62 rule0 (((w.alloc (.cells #[.int .i64 id, .int .i64 series, .int .i64 made, .slice A l.length c] 30)).alloc (.cells (cellsR rule0) 62)).alloc (.cells (cellsR rule0) 62)) := by
    refine ⟨blw_alloc (blw_alloc (blw_alloc (Below.refl _ _) _) _) _, ?_, ?_, ?_, ?_, fun h => absurd h (Nat.lt_irrefl 0)⟩
    · exact ((RecBox.new w id series made A l.length c 30).below (blw_alloc (Below.refl _ _) _)).below (blw_alloc (Below.refl _ _) _)
    · have h := (Blk.new (w.alloc (.cells #[.int .i64 id, .int .i64 series, .int .i64 made, .slice A l.length c] 30)) 62 (cellsR rule0)).alloc (.cells (cellsR rule0) 62)
      simpa using h
    · have h := Blk.new ((w.alloc (.cells #[.int .i64 id, .int .i64 series, .int .i64 made, .slice A l.length c] 30)).alloc (.cells (cellsR rule0) 62)) 62 (cellsR rule0)
      simpa using h
    · exact (((hl.alloc (Nat.le_refl _) _).alloc (by simp) _).alloc (by simp; omega) _).more (by simp; omega)
  have hr0 := (((hr.alloc (Nat.le_refl _) (.cells #[.int .i64 id, .int .i64 series, .int .i64 made, .slice A l.length c] 30)).alloc (by simp) (.cells (cellsR rule0) 62)).alloc (by simp; omega) (.cells (cellsR rule0) 62)).more (B' := (((w.alloc (.cells #[.int .i64 id, .int .i64 series, .int .i64 made, .slice A l.length c] 30)).alloc (.cells (cellsR rule0) 62)).alloc (.cells (cellsR rule0) 62)).heap.size) (by simp; omega)
  have hsz0 : (((w.alloc (.cells #[.int .i64 id, .int .i64 series, .int .i64 made, .slice A l.length c] 30)).alloc (.cells (cellsR rule0) 62)).alloc (.cells (cellsR rule0) 62)).heap.size = w.heap.size + 3 := by simp
  go_enter Try.func75, Try.ntmps75
  go_wp2_with fail
  change Calls Try.prog 81 _ (((w.alloc (.cells #[.int .i64 id, .int .i64 series, .int .i64 made, .slice A l.length c] 30)).alloc (.cells (cellsR rule0) 62)).alloc (.cells (cellsR rule0) 62)) _
  generalize (((w.alloc (.cells #[.int .i64 id, .int .i64 series, .int .i64 made, .slice A l.length c] 30)).alloc (.cells (cellsR rule0) 62)).alloc (.cells (cellsR rule0) 62)) = W0 at *
  refine (rulesFor_any _ _ rs _ _ hr0 (by omega)).mono ?_
  rintro e w1 ⟨A1, c1, rfl, hv1, hb1⟩
  rw [hsz0] at hv1
  have hI1 : DecI w w.heap.size (w.heap.size + 1 + 1) id series made A c l A1 (forS rs series) 62 rule0 w1 := by
    have h := hI.on hb1
    exact ⟨h.below, h.box, h.res, h.best, h.evs, hv1.ls encRule_len⟩
  have hA : Hid (0 < l.length → ∀ q, blkOf A q → q ≠ (w.heap.size + 1 + 1)) := fun hn q hq => by have := hl.blk_lt hn q hq; omega
  have hA1 : Hid (0 < (forS rs series).length → ∀ q, blkOf A1 q → q ≠ (w.heap.size + 1 + 1)) := fun hn q hq => by have := (hv1.block hq).1; omega
  have hP : Hid (w.heap.size + 1 < (w.heap.size + 1 + 1)) := by unfold Hid; omega
  clear hI hr0 hv1 hb1 hsz0
  go_wp2_with fail
  go_loopw [8, 17] (fun v i wr => ∃ k : Nat, k ≤ (forS rs series).length ∧ i = .int .i64 k ∧ v = .int .i64 (decK made l (forS rs series) k).2 ∧ DecI w w.heap.size (w.heap.size + 1 + 1) id series made A c l A1 (forS rs series) 62 (decK made l (forS rs series) k).1 wr ∧ Hid (∀ j (hj : j < (forS rs series).length), j < k → 0 ≤ endV made l (forS rs series)[j].e (forS rs series)[j].d)) (fun _ i _ => (forS rs series).length - (intOf i).toNat)
  case atStart => exact ⟨0, Nat.zero_le _, rfl, rfl, hI1, fun j _ hj => absurd hj (Nat.not_lt_zero _)⟩
  case round =>
    clear hI1
    obtain ⟨k, hk, rfl, rfl, hI, hall⟩ := hrel
    have HI := Lib.hid hI
    obtain ⟨r0, r1, r2, r3, rl⟩ := hI.box
    by_cases hlt : k < (forS rs series).length
    · obtain ⟨b, off, rfl, hbb, hc0, hc1, hc2, hc3⟩ := hI.rules.at_Rule hlt
      have HS := Lib.hid (decK_succ (made := made) (l := l) hlt)
      have hbk := Hfb.out _ (List.getElem_mem hlt)
      have hev := hI.evs
      generalize hst : decK made l (forS rs series) k = st at *
      obtain ⟨bs, due⟩ := st
      generalize hrk : (forS rs series)[k] = rk at *
      have Hrk := Lib.hid hrk
      have Hst := Lib.hid hst
      have hebd := endV_bd h1 (e := rk.e) hbk.2.2.1
      have Hek := Lib.hid (show endV made l rk.e rk.d = endV made l (forS rs series)[k].e (forS rs series)[k].d by rw [hrk])
      have HS2 : Hid (decK made l (forS rs series) (k + 1) = if betterB (endV made l rk.e rk.d) due rk.a bs.a = true then (rk, endV made l rk.e rk.d) else (bs, due)) := HS.out
      clear HS hrk hst hI
      go_wp2_with fail
      refine (endOf_any _ _ _ _ _ l _ _ _ _ _ ((hev.alloc (Nat.le_refl _) _).more (by simp)) h1 hbk.2.2.1).mono ?_
      generalize endV made l rk.e rk.d = ek at *
      rintro e w2 ⟨rfl, hb2⟩
      have hI2 := (HI.out.alloc (.cells (cellsR rk) 62)).on hb2
      have hxr := (bcell hb2).1
      have hx0 : w2.cell? ⟨wr.heap.size, 0, none⟩ = some (.int .i64 rk.s) := (hxr _ _ (by simp)).trans (by simp [cellsR])
      have hx1 : w2.cell? ⟨wr.heap.size, 1, none⟩ = some (.int .i64 rk.e) := (hxr _ _ (by simp)).trans (by simp [cellsR])
      have hx2 : w2.cell? ⟨wr.heap.size, 2, none⟩ = some (.int .i64 rk.d) := (hxr _ _ (by simp)).trans (by simp [cellsR])
      have hx3 : w2.cell? ⟨wr.heap.size, 3, none⟩ = some (.int .i64 rk.a) := (hxr _ _ (by simp)).trans (by simp [cellsR])
      clear hxr
      have HI2 := Lib.hid hI2
      obtain ⟨q0, q1, q2, q3, ql⟩ := hI2.box
      have hbB := hI2.best.cellsR
      have hbR := hI2.res.cellsR
      obtain ⟨b0, b1, b2, b3, g0, g1, g2, g3, bl⟩ := hbB
      obtain ⟨z0, z1, z2, z3, y0, y1, y2, y3, yl⟩ := hbR
      clear hI2 r0 r1 r2 r3 hc0 hc1 hc2 hc3
      rcases dec_cases ek due rk.a bs.a with h0 | ⟨h0, h3, h4⟩ | ⟨h0, h3, h5, h4⟩ | ⟨h0, h3, h5, h6, h4⟩ | ⟨h0, h3, h5, h6, h4⟩
      · have Ho : Hid (openB made l (forS rs series) = true) := openB_yes k hlt (by rw [← Hek.out]; exact h0)
        have HR := Lib.hid (decR_open Ho.out)
        have HD := Lib.hid (decD_open Ho.out)
        go_wp2_with fail
        refine bodyPost_ret (v := .tuple #[.agg #[.int .i64 0, .int .i64 0, .int .i64 0, .int .i64 0], .int .i64 0, .bool false]) (by simp [results, Try.results75, go_sem, yl, z0, z1, z2, z3]) rfl ⟨?_, ?_⟩
        · rw [HR.out, HD.out]; rfl
        · exact ((((HI2.out.below.setCell (by simp) _).setCell (by simp) _).setCell (by simp) _).setCell (by simp) _)
      · go_wp2_with fail
        go_roundw
        case rel => exact ⟨k + 1, by omega, by go_num, by rw [HS2.out, if_pos h4], by rw [HS2.out, if_pos h4]; exact HI2.out.set hP.out hA.out hA1.out rk, fun j hj hjk => by rcases Nat.lt_succ_iff_lt_or_eq.1 hjk with h | rfl; exact hall.out j hj h; rw [← Hek.out]; exact h0⟩
        case measure => simp [intOf]; omega
      · go_wp2_with fail
        go_roundw
        case rel => exact ⟨k + 1, by omega, by go_num, by rw [HS2.out, if_neg (by rw [h4]; exact Bool.false_ne_true)], by rw [HS2.out, if_neg (by rw [h4]; exact Bool.false_ne_true)]; exact HI2.out, fun j hj hjk => by rcases Nat.lt_succ_iff_lt_or_eq.1 hjk with h | rfl; exact hall.out j hj h; rw [← Hek.out]; exact h0⟩
        case measure => simp [intOf]; omega
      · go_wp2_with fail
        go_roundw
        case rel => exact ⟨k + 1, by omega, by go_num, by rw [HS2.out, if_pos h4], by rw [HS2.out, if_pos h4]; exact HI2.out.set hP.out hA.out hA1.out rk, fun j hj hjk => by rcases Nat.lt_succ_iff_lt_or_eq.1 hjk with h | rfl; exact hall.out j hj h; rw [← Hek.out]; exact h0⟩
        case measure => simp [intOf]; omega
      · go_wp2_with fail
        go_roundw
        case rel => exact ⟨k + 1, by omega, by go_num, by rw [HS2.out, if_neg (by rw [h4]; exact Bool.false_ne_true)], by rw [HS2.out, if_neg (by rw [h4]; exact Bool.false_ne_true)]; exact HI2.out, fun j hj hjk => by rcases Nat.lt_succ_iff_lt_or_eq.1 hjk with h | rfl; exact hall.out j hj h; rw [← Hek.out]; exact h0⟩
        case measure => simp [intOf]; omega
    · have hkk : k = (forS rs series).length := by omega
      subst hkk
      have Ho : Hid (openB made l (forS rs series) = false) := openB_no hall.out
      have HR := Lib.hid (decR_shut Ho.out)
      have HD := Lib.hid (decD_shut Ho.out)
      have hbB := hI.best.cellsR
      have hbR := hI.res.cellsR
      obtain ⟨b0, b1, b2, b3, g0, g1, g2, g3, bl⟩ := hbB
      obtain ⟨z0, z1, z2, z3, y0, y1, y2, y3, yl⟩ := hbR
      generalize hst : decK made l (forS rs series) (forS rs series).length = st at *
      obtain ⟨bs, due⟩ := st
      clear hst hI
      rcases Int.lt_or_le due 0 with h0 | h0
      · go_wp2_with fail
        refine bodyPost_ret (v := .tuple #[.agg #[.int .i64 bs.s, .int .i64 bs.e, .int .i64 bs.d, .int .i64 bs.a], .int .i64 0, .bool false]) (by simp [results, Try.results75, go_sem, yl, z0, z1, z2, z3, h0]) rfl ⟨?_, ?_⟩
        · have ht : top0 due = 0 := by unfold top0; omega
          have hp : posB due = false := by unfold posB; simpa using h0
          rw [HR.out, HD.out, ht, hp]
        · exact ((((HI.out.below.setCell (by simp) _).setCell (by simp) _).setCell (by simp) _).setCell (by simp) _)
      · go_wp2_with fail
        refine bodyPost_ret (v := .tuple #[.agg #[.int .i64 bs.s, .int .i64 bs.e, .int .i64 bs.d, .int .i64 bs.a], .int .i64 due, .bool true]) (by simp [results, Try.results75, go_sem, yl, z0, z1, z2, z3, h0]) rfl ⟨?_, ?_⟩
        · have ht : top0 due = due := by unfold top0; omega
          have hp : posB due = true := by unfold posB; simpa using h0
          rw [HR.out, HD.out, ht, hp]
        · exact ((((HI.out.below.setCell (by simp) _).setCell (by simp) _).setCell (by simp) _).setCell (by simp) _)

set_option maxHeartbeats 4000000 in
theorem l6Deciding_any (id series made : Int) (A : Option Addr) (c : Nat) (l : List Ev) (A' : Option Addr) (c' : Nat) (rs : List RuleD) (w : World) (hl : Ls w w.heap.size encEv 2 A l) (hr : Ls w w.heap.size encRule 4 A' rs) (h1 : recB id series made l = true) (h2 : schedB rs = true) :
    Calls Try.prog 72 #[.agg #[.int .i64 id, .int .i64 series, .int .i64 made, .slice A l.length c], .slice A' rs.length c'] w fun e w' => e = .returned (.tuple #[.agg #[.int .i64 (decR made l (forS rs series)).s, .int .i64 (decR made l (forS rs series)).e, .int .i64 (decR made l (forS rs series)).d, .int .i64 (decR made l (forS rs series)).a], .int .i64 (decD made l (forS rs series))]) ∧ Below w.heap.size w w' := by
  have hm : l.length ≤ 6 := (evB_of_rec h1).2.2.1
  have hmr : rs.length ≤ 8 := by simp [schedB] at h2; exact h2.2
  have hle := forS_le rs series
  have hfb := fun r (hr : r ∈ forS rs series) => (forS_bd h2 r hr).1
  have Hfb := Lib.hid hfb
  clear hfb
  have hlen : ((forS rs series).length : Int) ≤ 8 := by omega
  have hI : RecBox ((w.alloc (.cells #[.int .i64 id, .int .i64 series, .int .i64 made, .slice A l.length c] 30)).alloc (.cells (cellsR rule0) 62)) w.heap.size id series made A l.length c ∧ Blk ((w.alloc (.cells #[.int .i64 id, .int .i64 series, .int .i64 made, .slice A l.length c] 30)).alloc (.cells (cellsR rule0) 62)) (w.heap.size + 1) 62 (cellsR rule0) ∧ Below w.heap.size w ((w.alloc (.cells #[.int .i64 id, .int .i64 series, .int .i64 made, .slice A l.length c] 30)).alloc (.cells (cellsR rule0) 62)) ∧ Ls ((w.alloc (.cells #[.int .i64 id, .int .i64 series, .int .i64 made, .slice A l.length c] 30)).alloc (.cells (cellsR rule0) 62)) ((w.alloc (.cells #[.int .i64 id, .int .i64 series, .int .i64 made, .slice A l.length c] 30)).alloc (.cells (cellsR rule0) 62)).heap.size encEv 2 A l := by
    refine ⟨(RecBox.new w id series made A l.length c 30).below (blw_alloc (Below.refl _ _) _), ?_, blw_alloc (blw_alloc (Below.refl _ _) _) _, ((hl.alloc (Nat.le_refl _) _).alloc (by simp) _).more (by simp; omega)⟩
    have h := Blk.new (w.alloc (.cells #[.int .i64 id, .int .i64 series, .int .i64 made, .slice A l.length c] 30)) 62 (cellsR rule0)
    simpa using h
  have hr0 := ((hr.alloc (Nat.le_refl _) (.cells #[.int .i64 id, .int .i64 series, .int .i64 made, .slice A l.length c] 30)).alloc (by simp) (.cells (cellsR rule0) 62)).more (B' := ((w.alloc (.cells #[.int .i64 id, .int .i64 series, .int .i64 made, .slice A l.length c] 30)).alloc (.cells (cellsR rule0) 62)).heap.size) (by simp; omega)
  have hsz0 : ((w.alloc (.cells #[.int .i64 id, .int .i64 series, .int .i64 made, .slice A l.length c] 30)).alloc (.cells (cellsR rule0) 62)).heap.size = w.heap.size + 2 := by simp
  go_enter Try.func72, Try.ntmps72
  go_wp2_with fail
  change Calls Try.prog 79 _ ((w.alloc (.cells #[.int .i64 id, .int .i64 series, .int .i64 made, .slice A l.length c] 30)).alloc (.cells (cellsR rule0) 62)) _
  generalize ((w.alloc (.cells #[.int .i64 id, .int .i64 series, .int .i64 made, .slice A l.length c] 30)).alloc (.cells (cellsR rule0) 62)) = W0 at *
  refine (l4For_any _ _ rs _ _ hr0 (by omega)).mono ?_
  rintro e w1 ⟨A1, c1, rfl, hv1, hb1⟩
  rw [hsz0] at hv1
  have hs1 := hb1.size
  have hI1 : DecI w w.heap.size w1.heap.size id series made A c l A1 (forS rs series) 62 rule0 (w1.alloc (.cells (cellsR rule0) 62)) := by
    obtain ⟨i1, i2, i3, i4⟩ := hI
    have hba : Below w1.heap.size w1 (w1.alloc (.cells (cellsR rule0) 62)) := blw_alloc (Below.refl _ _) _
    exact ⟨blw_alloc (blw i3 hb1) _, (i1.below hb1).below hba, (i2.below hb1 i2.lt).alloc _, Blk.new w1 _ _, (((i4.below hb1).more hb1.size).below hba).more hba.size, ((hv1.ls encRule_len).below hba).more hba.size⟩
  have hA : Hid (0 < l.length → ∀ q, blkOf A q → q ≠ w1.heap.size) := fun hn q hq => by have := hl.blk_lt hn q hq; omega
  have hA1 : Hid (0 < (forS rs series).length → ∀ q, blkOf A1 q → q ≠ w1.heap.size) := fun hn q hq => by have := (hv1.block hq).2; omega
  have hP : Hid (w.heap.size + 1 < w1.heap.size) := by unfold Hid; omega
  clear hI hr0 hv1 hb1 hsz0 hs1
  go_wp2_with fail
  go_loopw [8, 9] (fun v i wr => ∃ k : Nat, k ≤ (forS rs series).length ∧ i = .int .i64 k ∧ v = .int .i64 (decK made l (forS rs series) k).2 ∧ DecI w w.heap.size w1.heap.size id series made A c l A1 (forS rs series) 62 (decK made l (forS rs series) k).1 wr ∧ Hid (∀ j (hj : j < (forS rs series).length), j < k → 0 ≤ endV made l (forS rs series)[j].e (forS rs series)[j].d)) (fun _ i _ => (forS rs series).length - (intOf i).toNat)
  case atStart => exact ⟨0, Nat.zero_le _, rfl, rfl, hI1, fun j _ hj => absurd hj (Nat.not_lt_zero _)⟩
  case round =>
    clear hI1
    obtain ⟨k, hk, rfl, rfl, hI, hall⟩ := hrel
    have HI := Lib.hid hI
    obtain ⟨r0, r1, r2, r3, rl⟩ := hI.box
    by_cases hlt : k < (forS rs series).length
    · obtain ⟨b, off, rfl, hbb, hc0, hc1, hc2, hc3⟩ := hI.rules.at_Rule hlt
      have HS := Lib.hid (decK_succ (made := made) (l := l) hlt)
      have hbk := Hfb.out _ (List.getElem_mem hlt)
      have hev := hI.evs
      generalize hst : decK made l (forS rs series) k = st at *
      obtain ⟨bs, due⟩ := st
      generalize hrk : (forS rs series)[k] = rk at *
      have Hrk := Lib.hid hrk
      have Hst := Lib.hid hst
      have hebd := endV_bd h1 (e := rk.e) hbk.2.2.1
      have Hek := Lib.hid (show endV made l rk.e rk.d = endV made l (forS rs series)[k].e (forS rs series)[k].d by rw [hrk])
      have HS2 : Hid (decK made l (forS rs series) (k + 1) = if betterB (endV made l rk.e rk.d) due rk.a bs.a = true then (rk, endV made l rk.e rk.d) else (bs, due)) := HS.out
      clear HS hrk hst hI
      have hi0 : (0 : Int) ≤ (k : Int) := by omega
      have hi1 : (k : Int) < ((forS rs series).length : Int) := by omega
      go_wp2_with fail
      refine wp_region_calm (by kernel_rfl) (by kernel_rfl) ?_
      repeat (go_big_quiet_step (first | (go_at_call 80; refine Calls.calm (l6End_any _ _ _ _ _ l _ _ _ _ _ ((hev.below (Aft.h _)).more (Aft.h _).size) h1 hbk.2.2.1))))
      refine wpQuiet_nil ?_
      rintro _ ⟨⟨w2, hb2⟩, rfl⟩
      generalize endV made l rk.e rk.d = ek at *
      have hI2 := HI.out.on hb2
      obtain ⟨b', off', hbe, hbb2, hx0, hx1, hx2, hx3⟩ := hI2.rules.at_Rule hlt
      cases hbe
      rw [Hrk.out] at hx0 hx1 hx2 hx3
      have HI2 := Lib.hid hI2
      obtain ⟨q0, q1, q2, q3, ql⟩ := hI2.box
      have hbB := hI2.best.cellsR
      have hbR := hI2.res.cellsR
      obtain ⟨b0, b1, b2, b3, g0, g1, g2, g3, bl⟩ := hbB
      obtain ⟨z0, z1, z2, z3, y0, y1, y2, y3, yl⟩ := hbR
      clear hI2 r0 r1 r2 r3 hc0 hc1 hc2 hc3
      rcases dec_cases ek due rk.a bs.a with h0 | ⟨h0, h3, h4⟩ | ⟨h0, h3, h5, h4⟩ | ⟨h0, h3, h5, h6, h4⟩ | ⟨h0, h3, h5, h6, h4⟩
      · have Ho : Hid (openB made l (forS rs series) = true) := openB_yes k hlt (by rw [← Hek.out]; exact h0)
        have HR := Lib.hid (decR_open Ho.out)
        have HD := Lib.hid (decD_open Ho.out)
        go_wp2_with fail
        refine bodyPost_ret (v := .tuple #[.agg #[.int .i64 0, .int .i64 0, .int .i64 0, .int .i64 0], .int .i64 (-1)]) (by simp [results, Try.results72, go_sem, yl, z0, z1, z2, z3]) rfl ⟨?_, ?_⟩
        · rw [HR.out, HD.out]; rfl
        · exact ((((HI2.out.below.setCell (by simp) _).setCell (by simp) _).setCell (by simp) _).setCell (by simp) _)
      · have h3d : decide (due < ek) = true := by simp; omega
        go_wp2_with fail
        refine wp_region_calm (by kernel_rfl) (by kernel_rfl) ?_
        repeat (go_big_quiet_step (fail))
        refine wpQuiet_nil ?_
        rintro _ ⟨⟨w3, hb3⟩, rfl⟩
        have hI3 := HI2.out.on hb3
        have HI3 := Lib.hid hI3
        obtain ⟨b'', off'', hbe, hbb3, hx0, hx1, hx2, hx3⟩ := hI3.rules.at_Rule hlt
        cases hbe
        rw [Hrk.out] at hx0 hx1 hx2 hx3
        obtain ⟨b0, b1, b2, b3, g0, g1, g2, g3, bl⟩ := hI3.best.cellsR
        clear hI3
        go_wp2_with fail
        go_roundw
        case rel => exact ⟨k + 1, by omega, by go_num, by rw [HS2.out, if_pos h4], by rw [HS2.out, if_pos h4]; exact HI3.out.set hP.out hA.out hA1.out rk, fun j hj hjk => by rcases Nat.lt_succ_iff_lt_or_eq.1 hjk with h | rfl; exact hall.out j hj h; rw [← Hek.out]; exact h0⟩
        case measure => simp [intOf]; omega
      · have h3d : decide (due < ek) = false := by simp; omega
        go_wp2_with fail
        refine wp_region_calm (by kernel_rfl) (by kernel_rfl) ?_
        repeat (go_big_quiet_step (fail))
        refine wpQuiet_nil ?_
        rintro _ ⟨⟨w3, hb3⟩, rfl⟩
        have hI3 := HI2.out.on hb3
        have HI3 := Lib.hid hI3
        obtain ⟨b'', off'', hbe, hbb3, hx0, hx1, hx2, hx3⟩ := hI3.rules.at_Rule hlt
        cases hbe
        rw [Hrk.out] at hx0 hx1 hx2 hx3
        obtain ⟨b0, b1, b2, b3, g0, g1, g2, g3, bl⟩ := hI3.best.cellsR
        clear hI3
        go_wp2_with fail
        go_roundw
        case rel => exact ⟨k + 1, by omega, by go_num, by rw [HS2.out, if_neg (by rw [h4]; exact Bool.false_ne_true)], by rw [HS2.out, if_neg (by rw [h4]; exact Bool.false_ne_true)]; exact HI3.out, fun j hj hjk => by rcases Nat.lt_succ_iff_lt_or_eq.1 hjk with h | rfl; exact hall.out j hj h; rw [← Hek.out]; exact h0⟩
        case measure => simp [intOf]; omega
      · have h3d : decide (due < ek) = false := by simp; omega
        have h6d : decide (rk.a < bs.a) = true := by simp; omega
        go_wp2_with fail
        refine wp_region_calm (by kernel_rfl) (by kernel_rfl) ?_
        repeat (go_big_quiet_step (fail))
        refine wpQuiet_nil ?_
        rintro _ ⟨⟨w3, hb3⟩, rfl⟩
        have hI3 := HI2.out.on hb3
        have HI3 := Lib.hid hI3
        obtain ⟨b'', off'', hbe, hbb3, hx0, hx1, hx2, hx3⟩ := hI3.rules.at_Rule hlt
        cases hbe
        rw [Hrk.out] at hx0 hx1 hx2 hx3
        obtain ⟨b0, b1, b2, b3, g0, g1, g2, g3, bl⟩ := hI3.best.cellsR
        clear hI3
        go_wp2_with fail
        go_roundw
        case rel => exact ⟨k + 1, by omega, by go_num, by rw [HS2.out, if_pos h4], by rw [HS2.out, if_pos h4]; exact HI3.out.set hP.out hA.out hA1.out rk, fun j hj hjk => by rcases Nat.lt_succ_iff_lt_or_eq.1 hjk with h | rfl; exact hall.out j hj h; rw [← Hek.out]; exact h0⟩
        case measure => simp [intOf]; omega
      · have h3d : decide (due < ek) = false := by simp; omega
        have h6d : decide (rk.a < bs.a) = false := by simp; omega
        go_wp2_with fail
        refine wp_region_calm (by kernel_rfl) (by kernel_rfl) ?_
        repeat (go_big_quiet_step (fail))
        refine wpQuiet_nil ?_
        rintro _ ⟨⟨w3, hb3⟩, rfl⟩
        have hI3 := HI2.out.on hb3
        have HI3 := Lib.hid hI3
        obtain ⟨b'', off'', hbe, hbb3, hx0, hx1, hx2, hx3⟩ := hI3.rules.at_Rule hlt
        cases hbe
        rw [Hrk.out] at hx0 hx1 hx2 hx3
        obtain ⟨b0, b1, b2, b3, g0, g1, g2, g3, bl⟩ := hI3.best.cellsR
        clear hI3
        go_wp2_with fail
        go_roundw
        case rel => exact ⟨k + 1, by omega, by go_num, by rw [HS2.out, if_neg (by rw [h4]; exact Bool.false_ne_true)], by rw [HS2.out, if_neg (by rw [h4]; exact Bool.false_ne_true)]; exact HI3.out, fun j hj hjk => by rcases Nat.lt_succ_iff_lt_or_eq.1 hjk with h | rfl; exact hall.out j hj h; rw [← Hek.out]; exact h0⟩
        case measure => simp [intOf]; omega
    · have hkk : k = (forS rs series).length := by omega
      subst hkk
      have Ho : Hid (openB made l (forS rs series) = false) := openB_no hall.out
      have HR := Lib.hid (decR_shut Ho.out)
      have HD := Lib.hid (decD_shut Ho.out)
      have hbB := hI.best.cellsR
      have hbR := hI.res.cellsR
      obtain ⟨b0, b1, b2, b3, g0, g1, g2, g3, bl⟩ := hbB
      obtain ⟨z0, z1, z2, z3, y0, y1, y2, y3, yl⟩ := hbR
      generalize hst : decK made l (forS rs series) (forS rs series).length = st at *
      obtain ⟨bs, due⟩ := st
      clear hst hI
      go_wp2_with fail
      refine bodyPost_ret (v := .tuple #[.agg #[.int .i64 bs.s, .int .i64 bs.e, .int .i64 bs.d, .int .i64 bs.a], .int .i64 due]) (by simp [results, Try.results72, go_sem, yl, z0, z1, z2, z3]) rfl ⟨?_, ?_⟩
      · rw [HR.out, HD.out]
      · exact ((((HI.out.below.setCell (by simp) _).setCell (by simp) _).setCell (by simp) _).setCell (by simp) _)


end Go.Proofs.Ytjbklopkginegaa
