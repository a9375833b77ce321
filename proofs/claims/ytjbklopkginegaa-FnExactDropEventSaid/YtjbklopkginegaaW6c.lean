/- Contracts of EndsOf, as the law takes them. -/
import Derived.Test.YtjbklopkginegaaW6b
import Derived.Test.YtjbklopkginegaaHInt
import Derived.Deep.RegionLaw
namespace Go.Proofs.Ytjbklopkginegaa
set_option linter.unusedVariables false
set_option linter.unusedSimpArgs false
open Go.RowKit
attribute [local go_sem] Aft.cell

/-- Two slices of one's own, of different element types, lie in different blocks. -/
theorem Vec.apart {α β : Type} {w : World} {b1 b2 : Nat} {t1 t2 : TypeId} {e1 : α → List Value} {e2 : β → List Value} {z1 z2 : Nat} {A1 A2 : Option Addr} {n1 n2 c1 c2 : Nat} {l1 : List α} {l2 : List β}
    (h1 : Vec w b1 t1 e1 z1 (.slice A1 n1 c1) l1) (h2 : Vec w b2 t2 e2 z2 (.slice A2 n2 c2) l2) (ht : t1 ≠ t2) : ∀ q, blkOf A1 q → ¬ blkOf A2 q := by
  rintro q ⟨o, rfl⟩ ⟨o', rfl⟩
  rcases h1.2 with ⟨h, _⟩ | ⟨g, cap, cur, h, _, hg, _⟩
  · simp at h
  · rcases h2.2 with ⟨h', _⟩ | ⟨g', cap', cur', h', _, hg', _⟩
    · simp at h'
    · simp at h h'
      obtain ⟨⟨rfl, _⟩, _⟩ := h
      obtain ⟨⟨rfl, _⟩, _⟩ := h'
      rw [hg] at hg'
      simp at hg'
      exact ht hg'.2
theorem Vec.wr_other {α β : Type} {w w' : World} {b1 b2 : Nat} {t1 t2 : TypeId} {e1 : α → List Value} {e2 : β → List Value} {z1 z2 : Nat} {A1 A2 : Option Addr} {n1 n2 c1 c2 : Nat} {l1 : List α} {l2 : List β}
    (h1 : Vec w b1 t1 e1 z1 (.slice A1 n1 c1) l1) (h2 : Vec w b2 t2 e2 z2 (.slice A2 n2 c2) l2) (ht : t1 ≠ t2) (hw : Wr (blkOf A2) w w') : Vec w' b1 t1 e1 z1 (.slice A1 n1 c1) l1 :=
  h1.wr hw (fun k hk => h1.apart h2 ht k (by
    cases A1 with
    | none => simp [Value.ownBlock] at hk
    | some a =>
      rcases h1.2 with ⟨h, _⟩ | ⟨g, cap, cur, h, _, hg, _⟩
      · simp at h
      · simp at h
        obtain ⟨rfl, _⟩ := h
        simp [Value.ownBlock] at hk
        exact ⟨0, by rw [hk]⟩))
theorem RecBox.wr {W W' : World} {p : Nat} {id series made : Int} {A : Option Addr} {n c : Nat} {S : Nat → Prop} (h : RecBox W p id series made A n c) (hw : Wr S W W') (hp : ¬ S p) : RecBox W' p id series made A n c :=
  ⟨(hw.cell h.lt hp).trans h.c0, (hw.cell h.lt hp).trans h.c1, (hw.cell h.lt hp).trans h.c2, (hw.cell h.lt hp).trans h.c3, Nat.lt_of_lt_of_le h.lt hw.size⟩

theorem Ls.on_drew {α : Type} {en : α → List Value} {sz : Nat} {w : World} {A : Option Addr} {l : List α} (h : Ls w w.heap.size en sz A l) : Ls w.drew w.drew.heap.size en sz A l := h

/-- append, as one step of a region that draws. -/
theorem step_app {P : Program} {α : Type} {en : α → List Value} {ops : Array Oper} {o : Oper} {a : Act} {w : World} {K : Act → World → Prop} {Q : Exit → Act → World → Prop} {E : Prop} (hgd : o.guard = none) (s x : Operand) (t : TypeId)
    (ho : o.op = .call { callee := .builtin .append, args := #[s, x], argTypes := #[t, t] })
    {base : Nat} (e : TypeId) (z : Value) (size bytes : Nat) (ht : P.underlying t = some (.slice e)) (hi : (P.info? e).map (fun i => (i.zero, i.size, i.bytes)) = some (some z, size, bytes))
    (hzs : z.cells.size = size) (hsz : 0 < size) (hen : ∀ a, (en a).length = size) (h1 : ∀ a, ∀ u ∈ en a, u.oneCell' = true)
    (A : Option Addr) (c : Nat) (l : List α) (hs : a.eval s = .slice A l.length c) (hv : Vec w base e en size (.slice A l.length c) l)
    (A2 : Option Addr) (c2 B2 : Nat) (l2 : List α) (hx : a.eval x = .slice A2 l2.length c2) (hr : Ls w B2 en size A2 l2)
    (h63 : l.length + l2.length ≤ maxLen) (hbytes : (l.length + l2.length) * bytes ≤ 140737488355328) (hbase : base ≤ w.heap.size)
    (h : ∀ A' c' w', Vec w' base e en size (.slice A' (l ++ l2).length c') (l ++ l2) → Wr (blkOf A) w w' → K (a.put o.dst (.slice A' (l ++ l2).length c')) w') :
    if Region.wanted o (yielded ops a.tmps) = true then Oper.wp P o a w K Q else E := by
  obtain ⟨A', c', w', hrun, h2, h3⟩ := run_app (P := P) t o.type e z size bytes ht hi hzs hsz hen h1 A c l hv A2 c2 B2 l2 hr h63 hbytes hbase
  have hw : Region.wanted o (yielded ops a.tmps) = true := by simp [Region.wanted, hgd]
  rw [if_pos hw]
  unfold Oper.wp
  simp [execOp, ho, resolve, invoke, builtin, hs, hx, hrun, Result.andThen]
  have h4 := h A' c' w' h2 h3
  simp only [List.length_append] at h4
  exact h4

set_option maxHeartbeats 4000000 in
set_option maxRecDepth 100000 in
theorem c_spec_EndsOf (id series made : Int) (A : Option Addr) (c : Nat) (l : List Ev) (A' : Option Addr) (c' : Nat) (rs : List RuleD) (w : World) (hl : Ls w w.heap.size encEv 2 A l) (hm : l.length ≤ 1048576) (hr : Ls w w.heap.size encRule 4 A' rs) (hmr : rs.length ≤ 1048576) :
    Calls Try.prog 48 #[.agg #[.int .i64 id, .int .i64 series, .int .i64 made, .slice A l.length c], .slice A' rs.length c'] w (RetSB w 3 encInt 1 (endsL id series made l rs) (askB id series made l rs)) := by
  have hl0 := ((hl.alloc (Nat.le_refl _) (.cells #[.int .i64 id, .int .i64 series, .int .i64 made, .slice A l.length c] 30)).alloc (by simp) (.cells #[] 3)).more (B' := ((w.alloc (.cells #[.int .i64 id, .int .i64 series, .int .i64 made, .slice A l.length c] 30)).alloc (.cells #[] 3)).heap.size) (by simp; omega)
  have hr0 := ((hr.alloc (Nat.le_refl _) (.cells #[.int .i64 id, .int .i64 series, .int .i64 made, .slice A l.length c] 30)).alloc (by simp) (.cells #[] 3)).more (B' := ((w.alloc (.cells #[.int .i64 id, .int .i64 series, .int .i64 made, .slice A l.length c] 30)).alloc (.cells #[] 3)).heap.size) (by simp; omega)
  have hbx := (RecBox.new w id series made A l.length c 30).below (blw_alloc (Below.refl _ _) (.cells #[] 3))
  have hB := blw_alloc (blw_alloc (Below.refl w.heap.size w) (.cells #[.int .i64 id, .int .i64 series, .int .i64 made, .slice A l.length c] 30)) (.cells #[] 3)
  have hmk : Vec ((w.alloc (.cells #[.int .i64 id, .int .i64 series, .int .i64 made, .slice A l.length c] 30)).alloc (.cells #[] 3)) (w.heap.size + 1) 3 encInt 1 (.slice (some ⟨w.heap.size + 1, 0, none⟩) 0 0) [] := by
    have h := (Vec.empty (en := encInt) (sz := 1) (w.alloc (.cells #[.int .i64 id, .int .i64 series, .int .i64 made, .slice A l.length c] 30)) (w.heap.size + 1) 3 (by simp))
    simpa using h
  cases h1 : askB id series made l rs
  · have e0 := Lib.hid (show endsL id series made l rs = [] by simp [endsL, h1])
    go_enter Try.func48, Try.ntmps48
    go_wp2_with fail
    change Calls Try.prog 71 _ ((w.alloc (.cells #[.int .i64 id, .int .i64 series, .int .i64 made, .slice A l.length c] 30)).alloc (.cells #[] 3)) _
    generalize ((w.alloc (.cells #[.int .i64 id, .int .i64 series, .int .i64 made, .slice A l.length c] 30)).alloc (.cells #[] 3)) = W0 at *
    refine (l6Asked_any _ _ _ _ _ l _ _ rs _ hl0 hm hr0 hmr).mono ?_
    rw [h1]
    rintro e w1 ⟨rfl, hb1⟩
    go_wp2_with fail
    go_ret2
    exact ⟨(some ⟨w.heap.size + 1, 0, none⟩), 0, by rw [e0.out]; rfl, by rw [e0.out]; exact (hmk.on hb1).mono (Nat.le_succ _), hB.trans (hb1.mono hB.size)⟩
  · have ha : recB id series made l = true ∧ schedB rs = true := by simpa [askB] using h1
    have hsl : rs.length ≤ 8 := by have := ha.2; simp [schedB] at this; exact this.2
    have hle := forS_le rs series
    have hlen : ((forS rs series).length : Int) ≤ 8 := by omega
    have hfb := fun r (hr : r ∈ forS rs series) => (forS_bd ha.2 r hr).1
    have Hfb := Lib.hid hfb
    clear hfb
    have e0 := Lib.hid (show endsL id series made l rs = endsK made l (forS rs series) (forS rs series).length by simp [endsL, h1])
    go_enter Try.func48, Try.ntmps48
    go_wp2_with fail
    change Calls Try.prog 71 _ ((w.alloc (.cells #[.int .i64 id, .int .i64 series, .int .i64 made, .slice A l.length c] 30)).alloc (.cells #[] 3)) _
    generalize ((w.alloc (.cells #[.int .i64 id, .int .i64 series, .int .i64 made, .slice A l.length c] 30)).alloc (.cells #[] 3)) = W0 at *
    refine (l6Asked_any _ _ _ _ _ l _ _ rs _ hl0 hm hr0 hmr).mono ?_
    rw [h1]
    rintro e w1 ⟨rfl, hb1⟩
    have hB1 := hB.trans (hb1.mono hB.size)
    have hbx1 := hbx.below hb1
    obtain ⟨r0, r1, r2, r3, rl⟩ := hbx1
    have hr1 := (hr0.below hb1).more hb1.size
    go_wp2_with fail
    refine (l4For_any _ _ rs _ _ hr1 (by omega)).mono ?_
    rintro e w2 ⟨A1, c1, rfl, hv2, hb2⟩
    have hbs : w.heap.size + 1 ≤ w1.heap.size := by have := (hbx.below hb1).lt; omega
    have hI : Hid (Vec w2 (w.heap.size + 1) 3 encInt 1 (.slice (some ⟨w.heap.size + 1, 0, none⟩) 0 0) [] ∧ Below w.heap.size w w2 ∧ RecBox w2 w.heap.size id series made A l.length c ∧ Vec w2 (w.heap.size + 1) 62 encRule 4 (.slice A1 (forS rs series).length c1) (forS rs series)) :=
      ⟨(hmk.on hb1).on hb2, hB1.trans (hb2.mono hB1.size), (hbx.below hb1).below hb2, hv2.mono hbs⟩
    have hlw : Hid (Ls w w.heap.size encEv 2 A l) := hl
    obtain ⟨r0', r1', r2', r3', rl'⟩ := hI.out.2.2.1
    clear hl0 hr0 hbx hB hb1 hr1 hv2 hb2 hl hr r0 r1 r2 r3 rl hbs hmk
    go_wp2_with fail
    go_loopw [6, 8] (fun v i wr => ∃ (k : Nat) (A2 : Option Addr) (c2 : Nat), k ≤ (forS rs series).length ∧ i = .int .i64 k ∧ v = .slice A2 (endsK made l (forS rs series) k).length c2 ∧ Vec wr (w.heap.size + 1) 3 encInt 1 (.slice A2 (endsK made l (forS rs series) k).length c2) (endsK made l (forS rs series) k) ∧ Below w.heap.size w wr ∧ RecBox wr w.heap.size id series made A l.length c ∧ Vec wr (w.heap.size + 1) 62 encRule 4 (.slice A1 (forS rs series).length c1) (forS rs series)) (fun _ i _ => (forS rs series).length - (intOf i).toNat)
    case atStart => exact ⟨0, (some ⟨w.heap.size + 1, 0, none⟩), 0, Nat.zero_le _, rfl, rfl, hI.out⟩
    case round =>
      clear hI r0' r1' r2' r3' rl'
      obtain ⟨k, A2, c2, hk, rfl, rfl, hv, hb, hbx, hvr⟩ := hrel
      obtain ⟨r0, r1, r2, r3, rl⟩ := hbx
      have Hbx := Lib.hid (show RecBox wr w.heap.size id series made A l.length c from ⟨r0, r1, r2, r3, rl⟩)
      have hkl := endsK_len (made := made) (l := l) k hk
      by_cases hlt : k < (forS rs series).length
      · obtain ⟨b, off, rfl, hbb, hc0, hc1, hc2, hc3⟩ := (hvr.ls encRule_len).at_Rule hlt
        have he := Lib.hid (endsK_succ (made := made) (l := l) hlt)
        have hbk := Hfb.out _ (List.getElem_mem hlt)
        have hF1 : (endsK made l (forS rs series) k).length + [endV made l (forS rs series)[k].e (forS rs series)[k].d].length ≤ maxLen := by unfold maxLen; simp; omega
        have hF2 : ((endsK made l (forS rs series) k).length + [endV made l (forS rs series)[k].e (forS rs series)[k].d].length) * 8 ≤ 140737488355328 := by simp; omega
        have hlr := Lib.hid ((hlw.out.below hb).more hb.size)
        have hi0 : (0 : Int) ≤ (k : Int) := by omega
        have hi1 : (k : Int) < ((forS rs series).length : Int) := by omega
        have hvd : Vec wr.drew (w.heap.size + 1) 3 encInt 1 (.slice A2 (endsK made l (forS rs series) k).length c2) (endsK made l (forS rs series) k) := hv.on (Below.refl _ _).drew
        have hvrd : Vec wr.drew (w.heap.size + 1) 62 encRule 4 (.slice (some ⟨b, off, none⟩) (forS rs series).length c1) (forS rs series) := hvr.on (Below.refl _ _).drew
        have Hlt := Lib.hid hlt
        clear hkl
        generalize hek : (forS rs series)[k] = rk at *
        have Hek := Lib.hid hek
        clear hek hlt
        go_wp2_with fail
        go_region_law (first | (refine step_app rfl (.tmp 25) (.tmp 32) 52 rfl 3 (.int .i64 0) 1 8 Try.underlying52 (by kernel_rfl) rfl (by omega) encInt_len one_int A2 c2 (endsK made l (forS rs series) k) rfl ((hvd.on hb3).alloc _) _ 1 (_ + 1) [(endV made l rk.e rk.d)] rfl (by exact Ls.one_at (by simp) rfl) hF1 hF2 (by have h9 : wr.heap.size ≤ w3.heap.size := hb3.size; simp; omega) ?_; intro A3 c3 w4 hv4 hw4) | (go_simp; go_at_call 80; refine (l6End_any _ _ _ _ _ l _ _ _ _ _ (hlr.out.on_drew) ha.1 hbk.2.2.1).mono ?_; rintro e w3 ⟨rfl, hb3⟩))
        all_goals
          have HB3 := Lib.hid (show Below w.heap.size w w3 from blw hb.drew hb3)
          have HV3 := Lib.hid (show Vec (w3.alloc (.cells #[.int .i64 (endV made l rk.e rk.d)] 3)) (w.heap.size + 1) 3 encInt 1 (.slice A2 (endsK made l (forS rs series) k).length c2) (endsK made l (forS rs series) k) ∧ Vec (w3.alloc (.cells #[.int .i64 (endV made l rk.e rk.d)] 3)) (w.heap.size + 1) 62 encRule 4 (.slice (some ⟨b, off, none⟩) (forS rs series).length c1) (forS rs series) ∧ RecBox (w3.alloc (.cells #[.int .i64 (endV made l rk.e rk.d)] 3)) w.heap.size id series made A l.length c from
            ⟨(hvd.on hb3).alloc _, (hvrd.on hb3).alloc _, ((Hbx.out.below (Below.refl _ _).drew).below hb3).below (blw_alloc (Below.refl _ _) _)⟩)
          have hs3 := hb3.size
          have hs3' : wr.heap.size ≤ w3.heap.size := by exact hs3
          go_wp2_with fail
          have hb4 := (blw_alloc HB3.out (.cells #[.int .i64 (endV made l rk.e rk.d)] 3)).trans (hw4.below (by have := HB3.out.size; simp; omega) (fun x hx => Nat.le_of_succ_le (HV3.out.1.block hx).1))
          have hx4 := (HV3.out.2.1.wr_other HV3.out.1 (by decide) hw4)
          have hr4 := HV3.out.2.2.wr hw4 (fun hS => by have := (HV3.out.1.block hS).1; omega)
          go_roundw
          case rel => exact ⟨k + 1, A3, c3, by have := Hlt.out; omega, by go_num, by rw [he.out]; simp, by rw [he.out]; exact hv4, hb4, hr4, hx4⟩
          case measure => have := Hlt.out; simp [intOf]; omega
      · clear hkl
        have hkk : k = (forS rs series).length := by omega
        subst hkk
        go_wp2_with fail
        go_ret2
        exact ⟨A2, c2, by rw [e0.out]; rfl, by rw [e0.out]; exact hv.mono (Nat.le_succ _), hb⟩

set_option maxHeartbeats 4000000 in
set_option maxRecDepth 100000 in
theorem c_impl_EndsOf (id series made : Int) (A : Option Addr) (c : Nat) (l : List Ev) (A' : Option Addr) (c' : Nat) (rs : List RuleD) (w : World) (hl : Ls w w.heap.size encEv 2 A l) (hm : l.length ≤ 1048576) (hr : Ls w w.heap.size encRule 4 A' rs) (hmr : rs.length ≤ 1048576) :
    Calls Try.prog 49 #[.agg #[.int .i64 id, .int .i64 series, .int .i64 made, .slice A l.length c], .slice A' rs.length c'] w (RetSB w 3 encInt 1 (endsL id series made l rs) (askB id series made l rs)) := by
  have hl0 := (hl.alloc (Nat.le_refl _) (.cells #[.int .i64 id, .int .i64 series, .int .i64 made, .slice A l.length c] 30)).more (B' := (w.alloc (.cells #[.int .i64 id, .int .i64 series, .int .i64 made, .slice A l.length c] 30)).heap.size) (by simp)
  have hr0 := (hr.alloc (Nat.le_refl _) (.cells #[.int .i64 id, .int .i64 series, .int .i64 made, .slice A l.length c] 30)).more (B' := (w.alloc (.cells #[.int .i64 id, .int .i64 series, .int .i64 made, .slice A l.length c] 30)).heap.size) (by simp)
  have hbx := RecBox.new w id series made A l.length c 30
  have hB := blw_alloc (Below.refl w.heap.size w) (.cells #[.int .i64 id, .int .i64 series, .int .i64 made, .slice A l.length c] 30)
  cases h1 : askB id series made l rs
  · have e0 := Lib.hid (show endsL id series made l rs = [] by simp [endsL, h1])
    go_enter Try.func49, Try.ntmps49
    go_wp2_with fail
    generalize (w.alloc (.cells #[.int .i64 id, .int .i64 series, .int .i64 made, .slice A l.length c] 30)) = W0 at *
    refine (areBoth_any _ _ _ _ _ l _ _ rs _ hl0 hm hr0 hmr).mono ?_
    rw [h1]
    rintro e w1 ⟨rfl, hb1⟩
    go_wp2_with fail
    go_ret2
    exact ⟨none, 0, by rw [e0.out]; rfl, by rw [e0.out]; exact Vec.nil.mono (Nat.le_succ _), hB.trans (hb1.mono hB.size)⟩
  · have ha : recB id series made l = true ∧ schedB rs = true := by simpa [askB] using h1
    have hsl : rs.length ≤ 8 := by have := ha.2; simp [schedB] at this; exact this.2
    have hle := forS_le rs series
    have hlen : ((forS rs series).length : Int) ≤ 8 := by omega
    have hfb := fun r (hr : r ∈ forS rs series) => (forS_bd ha.2 r hr).1
    have Hfb := Lib.hid hfb
    clear hfb
    have e0 := Lib.hid (show endsL id series made l rs = endsK made l (forS rs series) (forS rs series).length by simp [endsL, h1])
    go_enter Try.func49, Try.ntmps49
    go_wp2_with fail
    generalize (w.alloc (.cells #[.int .i64 id, .int .i64 series, .int .i64 made, .slice A l.length c] 30)) = W0 at *
    refine (areBoth_any _ _ _ _ _ l _ _ rs _ hl0 hm hr0 hmr).mono ?_
    rw [h1]
    rintro e w1 ⟨rfl, hb1⟩
    have hB1 := hB.trans (hb1.mono hB.size)
    have hbx1 := hbx.below hb1
    obtain ⟨r0, r1, r2, r3, rl⟩ := hbx1
    have hr1 := (hr0.below hb1).more hb1.size
    go_wp2_with fail
    refine (rulesFor_any _ _ rs _ _ hr1 (by omega)).mono ?_
    rintro e w2 ⟨A1, c1, rfl, hv2, hb2⟩
    have hbs : w.heap.size + 1 ≤ w1.heap.size := by have := (hbx.below hb1).lt; omega
    have hI : Hid (Vec w2 (w.heap.size + 1) 3 encInt 1 (.slice none 0 0) [] ∧ Below w.heap.size w w2 ∧ RecBox w2 w.heap.size id series made A l.length c ∧ Vec w2 (w.heap.size + 1) 62 encRule 4 (.slice A1 (forS rs series).length c1) (forS rs series)) :=
      ⟨Vec.nil, hB1.trans (hb2.mono hB1.size), (hbx.below hb1).below hb2, hv2.mono hbs⟩
    have hlw : Hid (Ls w w.heap.size encEv 2 A l) := hl
    obtain ⟨r0', r1', r2', r3', rl'⟩ := hI.out.2.2.1
    clear hl0 hr0 hbx hB hb1 hr1 hv2 hb2 hl hr r0 r1 r2 r3 rl hbs
    go_wp2_with fail
    go_loopw [6, 18] (fun v i wr => ∃ (k : Nat) (A2 : Option Addr) (c2 : Nat), k ≤ (forS rs series).length ∧ i = .int .i64 k ∧ v = .slice A2 (endsK made l (forS rs series) k).length c2 ∧ Vec wr (w.heap.size + 1) 3 encInt 1 (.slice A2 (endsK made l (forS rs series) k).length c2) (endsK made l (forS rs series) k) ∧ Below w.heap.size w wr ∧ RecBox wr w.heap.size id series made A l.length c ∧ Vec wr (w.heap.size + 1) 62 encRule 4 (.slice A1 (forS rs series).length c1) (forS rs series)) (fun _ i _ => (forS rs series).length - (intOf i).toNat)
    case atStart => exact ⟨0, none, 0, Nat.zero_le _, rfl, rfl, hI.out⟩
    case round =>
      clear hI r0' r1' r2' r3' rl'
      obtain ⟨k, A2, c2, hk, rfl, rfl, hv, hb, hbx, hvr⟩ := hrel
      obtain ⟨r0, r1, r2, r3, rl⟩ := hbx
      have Hbx := Lib.hid (show RecBox wr w.heap.size id series made A l.length c from ⟨r0, r1, r2, r3, rl⟩)
      have hkl := endsK_len (made := made) (l := l) k hk
      by_cases hlt : k < (forS rs series).length
      · obtain ⟨b, off, rfl, hbb, hc0, hc1, hc2, hc3⟩ := (hvr.ls encRule_len).at_Rule hlt
        have he := Lib.hid (endsK_succ (made := made) (l := l) hlt)
        have hbk := Hfb.out _ (List.getElem_mem hlt)
        have hF1 : (endsK made l (forS rs series) k).length + [endV made l (forS rs series)[k].e (forS rs series)[k].d].length ≤ maxLen := by unfold maxLen; simp; omega
        have hF2 : ((endsK made l (forS rs series) k).length + [endV made l (forS rs series)[k].e (forS rs series)[k].d].length) * 8 ≤ 140737488355328 := by simp; omega
        have hlr := Lib.hid ((hlw.out.below hb).more hb.size)
        have hi0 : (0 : Int) ≤ (k : Int) := by omega
        have hi1 : (k : Int) < ((forS rs series).length : Int) := by omega
        have hvd : Vec (wr.alloc (.cells (cellsR (forS rs series)[k]) 62)) (w.heap.size + 1) 3 encInt 1 (.slice A2 (endsK made l (forS rs series) k).length c2) (endsK made l (forS rs series) k) := hv.alloc _
        have hvrd : Vec (wr.alloc (.cells (cellsR (forS rs series)[k]) 62)) (w.heap.size + 1) 62 encRule 4 (.slice (some ⟨b, off, none⟩) (forS rs series).length c1) (forS rs series) := hvr.alloc _
        have Hlt := Lib.hid hlt
        clear hkl
        generalize hek : (forS rs series)[k] = rk at *
        have Hek := Lib.hid hek
        clear hek hlt
        go_wp2_with fail
        refine (endOf_any _ _ _ _ _ l _ _ _ _ _ ((hlr.out.alloc (Nat.le_refl _) _).more (by simp)) ha.1 hbk.2.2.1).mono ?_
        rintro e w3 ⟨rfl, hb3⟩
        have HB3 := Lib.hid (show Below w.heap.size w w3 from blw (blw_alloc hb _) hb3)
        have HV3 := Lib.hid (show Vec (w3.alloc (.cells #[.int .i64 (endV made l rk.e rk.d)] 3)) (w.heap.size + 1) 3 encInt 1 (.slice A2 (endsK made l (forS rs series) k).length c2) (endsK made l (forS rs series) k) ∧ Vec (w3.alloc (.cells #[.int .i64 (endV made l rk.e rk.d)] 3)) (w.heap.size + 1) 62 encRule 4 (.slice (some ⟨b, off, none⟩) (forS rs series).length c1) (forS rs series) ∧ RecBox (w3.alloc (.cells #[.int .i64 (endV made l rk.e rk.d)] 3)) w.heap.size id series made A l.length c from
          ⟨(hvd.on hb3).alloc _, (hvrd.on hb3).alloc _, ((Hbx.out.below (blw_alloc (Below.refl _ _) (.cells (cellsR rk) 62))).below hb3).below (blw_alloc (Below.refl _ _) _)⟩)
        have hs3 := hb3.size
        have hs3' : wr.heap.size ≤ w3.heap.size := by simp at hs3; omega
        go_wp2_with (at_builtin; refine wpList_app rfl (.tmp 22) (.tmp 26) 52 rfl 3 (.int .i64 0) 1 8 Try.underlying52 (by kernel_rfl) rfl (by omega) encInt_len one_int A2 c2 (endsK made l (forS rs series) k) rfl HV3.out.1 _ 1 (_ + 1) [(endV made l rk.e rk.d)] rfl (by exact Ls.one_at (by simp) rfl) hF1 hF2 (by simp; omega) ?_; intro A3 c3 w4 hv4 hw4)
        have hb4 := (blw_alloc HB3.out (.cells #[.int .i64 (endV made l rk.e rk.d)] 3)).trans (hw4.below (by have := HB3.out.size; simp; omega) (fun x hx => Nat.le_of_succ_le (HV3.out.1.block hx).1))
        have hx4 := (HV3.out.2.1.wr_other HV3.out.1 (by decide) hw4)
        have hr4 := HV3.out.2.2.wr hw4 (fun hS => by have := (HV3.out.1.block hS).1; omega)
        go_roundw
        case rel => exact ⟨k + 1, A3, c3, by have := Hlt.out; omega, by go_num, by rw [he.out]; simp, by rw [he.out]; exact hv4, hb4, hr4, hx4⟩
        case measure => have := Hlt.out; simp [intOf]; omega
      · clear hkl
        have hkk : k = (forS rs series).length := by omega
        subst hkk
        go_wp2_with fail
        go_ret2
        exact ⟨A2, c2, by rw [e0.out]; rfl, by rw [e0.out]; exact hv.mono (Nat.le_succ _), hb⟩


end Go.Proofs.Ytjbklopkginegaa
