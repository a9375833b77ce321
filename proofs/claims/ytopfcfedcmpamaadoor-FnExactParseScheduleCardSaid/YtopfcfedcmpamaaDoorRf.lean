/- A range over an iterator that keeps state of its own in cells: the law of the walk; a round's regions walked by the plain words. -/
import Derived.Test.YtopfcfedcmpamaaDoorL
import Derived.RangeFuncLeaves
import Derived.RangeFuncOwn
import Derived.OrdersHeld
namespace Go.Proofs.YtopfcfedcmpamaaDoor
set_option linter.unusedVariables false
set_option linter.unusedSimpArgs false
open Go.RowKit

section
variable {P : Program}

/-! a round's regions by the plain words -/
def Oper.calmB (o : Oper) : Bool := match o.op with | .defer _ => false | _ => true
theorem uponIn_of_upon {o : Oper} {a : Act} {K : Act → World → Prop} {Q : Exit → Act → World → Prop} {r n : Nat} {x : Result Next} (h : o.upon P a K Q x) : o.uponIn (Fence.wide.inRound r) n P a K Q x := by
  cases x with
  | ok v w' =>
    cases v <;> simp only [Oper.upon, Oper.uponIn] at h ⊢ <;> first | exact h | skip
    · exact ⟨fun hd => by simp [Fence.wide] at hd, callsIn_wide.2 h⟩
    · exact ⟨fun hd => by simp [Fence.wide] at hd, fun c cs _ => by
        obtain ⟨v, w', hR, hs⟩ := h c cs
        exact ⟨v, w', hR, stepsIn_wide.2 hs⟩⟩
  | halt v w' => cases v <;> simp only [Oper.upon, Oper.uponIn] at h ⊢ <;> exact h
theorem opIn_of_op {o : Oper} {a : Act} {w : World} {K : Act → World → Prop} {Q : Exit → Act → World → Prop} {r n : Nat} (hd : Oper.calmB o = true) (h : o.wp P a w K Q) : o.wpIn (Fence.wide.inRound r) n P a w K Q := by
  refine ⟨fun _ _ => trivial, ?_⟩
  rw [Oper.semAt_eq _ _ _ (by intro c hc; simp [Oper.calmB, hc] at hd)]
  exact uponIn_of_upon h
theorem opsIn_of_ops {ops : Array Oper} {Q : Exit → Act → World → Prop} {r n : Nat} (hQ : ¬ LetsOut Q) (hd : ∀ (i : Nat) (o : Oper), ops[i]? = some o → Oper.calmB o = true) :
    ∀ (l : List Nat) (a : Act) (w : World), wpOps P ops Q l a w → wpOpsIn (Fence.wide.inRound r) n P ops Q l a w
  | [], _, _, h => h
  | i :: l, a, w, h => by
    simp only [wpOps, wpOpsIn] at h ⊢
    cases ho : ops[i]? with
    | none => simp only [ho] at h ⊢; exact opsIn_of_ops hQ hd l a w h
    | some o =>
      simp only [ho] at h ⊢
      by_cases hw : Region.wanted o (yielded ops a.tmps) = true
      · simp only [hw, if_true] at h ⊢
        rcases h with h | ⟨_, h⟩
        · exact opIn_of_op (hd i o ho) (Oper.wp_mono (opsIn_of_ops hQ hd l) h)
        · exact absurd h hQ
      · simp only [hw, if_false, Bool.false_eq_true] at h ⊢
        exact ⟨fun _ _ => trivial, opsIn_of_ops hQ hd l _ w h⟩
theorem calm_all {l : List Oper} (h : l.all Oper.calmB = true) (i : Nat) (o : Oper) (ho : l.toArray[i]? = some o) : Oper.calmB o = true :=
  List.all_eq_true.1 h o (List.mem_of_getElem? (by simpa using ho))
/-- a region of a round that draws no order -/
theorem round_list {id : Nat} {l : List Oper} {Q : Exit → Act → World → Prop} {r n : Nat} {a : Act} {w : World} (hQ : ¬ LetsOut Q) (hd : l.all Oper.calmB = true) (h : wpList P l.toArray Q l a w) :
    (Code.region id l.toArray false).wpIn (Fence.wide.inRound r) n P Q a w :=
  wpIn_region (opsIn_of_ops hQ (calm_all hd) _ _ _ (by
    rw [List.range_eq_range', ← Array.length_toList, wpOps_eq_wpList l.toArray.toList 0 (by simp)]; simpa using h))
/-- a region of a round that draws its order -/
theorem round_held {id : Nat} {l : List Oper} {Q : Exit → Act → World → Prop} {r n : Nat} {a : Act} {w : World} (S : World → Prop) (hQ : ¬ LetsOut Q) (hd : l.all Oper.calmB = true) (hm : P.follows .mixedOrders = true)
    (h : wpAnyH P .any l.toArray Q S l.length (Array.replicate l.length false) a w.drew) : (Code.region id l.toArray true).wpIn (Fence.wide.inRound r) n P Q a w :=
  wpIn_region_draw fun t => by
    simp only [Region.schedule, hm, Bool.true_or, if_true]
    refine opsIn_of_ops hQ (calm_all hd) _ _ _ (wpAny_sound l.toArray.size t _ a _ (wpAny_of_held (S := S) _ _ _ _ ?_))
    simpa using h

/-! the law -/
/-- the iterator's contract: it yields the words xs, one after the other, over whatever J abides its own writing (blocks lo .. hi-1) and whatever round leaves these blocks as they were -/
def GivesAll {α : Type} (P : Program) (gf : Nat) (lb : Array Value) (enc : α → Value) (lo hi : Nat) (xs : List α) (w : World) : Prop :=
  ∀ (l : Nat) (J : List α → World → Prop) (W : World), (∀ k, lo ≤ k → k < hi → W.heap[k]? = w.heap[k]?) →
    (∀ s A B, J s A → Wr (fun k => lo ≤ k ∧ k < hi) A B → J s B) →
    (∀ (pre : List α) (x : α) (post : List α) (W1 : World), pre ++ x :: post = xs → J pre W1 → YieldAt Fence.wide 0 P l #[enc x] W1 fun e W' =>
      e = .returned (.bool true) ∧ J (pre ++ [x]) W' ∧ (∀ k, lo ≤ k → k < hi → W'.heap[k]? = W1.heap[k]?)) →
    J [] W →
    CallsIn Fence.wide 0 P gf (#[.func (.yield l) #[] #[]] ++ lb) W fun e W' => (∃ v, e = .returned v) ∧ J xs W'

theorem Wr.putObj {S : Nat → Prop} {W : World} {l : Nat} (o : Obj) (hl : S l) : Wr S W (W.putObj l o) :=
  ⟨rfl, rfl, rfl, by simp, fun k _ hn => World.putObj_heap_other (fun e => hn (by rw [e]; exact hl))⟩
theorem Wr.putObjs {S : Nat → Prop} {A W : World} (h : Wr S A W) {l : Nat} (o : Obj) (hl : S l) : Wr S A (W.putObj l o) := h.trans (Wr.putObj o hl)

theorem wp_rangeFunc_all {α : Type} {g : Operand} {ps : Array Tmp} {assign body : Code} {Q : Exit → Act → World → Prop} {a : Act} {w : World}
    {gf : Nat} {lb : Array Value} (hg : a.eval g = .func (.func gf) #[] lb) (eg : ∀ args w, (callFunc gf args).run P w = .ok (.enter gf args) w)
    {enc : α → Value} {lo : Nat} {xs : List α} (hlo : lo ≤ w.heap.size) (hseq : GivesAll P gf lb enc lo w.heap.size xs w) (hps : ps.size = 1)
    (I : List α → World → Prop) (hI : ∀ s A B, I s A → Wr (fun k => lo ≤ k ∧ k ≤ w.heap.size + 1) A B → I s B) (h0 : I [] w) (a₁ : α → Act)
    (hassign : ∀ (l : Nat) (x : α) (W : World) (K : Act → World → Prop), K (a₁ x) W →
      assign.wpIn (Fence.wide.inRound l) 0 P (Exit.then K (fun _ _ _ => False)) { tmps := (ps.zip #[enc x]).foldl (fun t (p, v) => t.setIfInBounds p v) a.tmps, defers := [] } W)
    (hbody : ∀ (l : Nat) (pre : List α) (x : α) (post : List α) (W : World), pre ++ x :: post = xs → I pre W → w.heap.size + 2 ≤ W.heap.size →
      body.wpIn (Fence.wide.inRound l) 0 P (fun e _ W' => e = .normal ∧ (∀ k, lo ≤ k → k ≤ w.heap.size + 1 → W'.heap[k]? = W.heap[k]?) ∧ I (pre ++ [x]) W') (a₁ x) W)
    (hdone : ∀ (W : World), I xs W → W.heap[w.heap.size]? = some (.deferred (some [])) → Q .normal { a with defers := { target := .collected w.heap.size, args := #[] } :: a.defers } W) :
    (Code.rangeFunc g ps assign body).wp P Q a w := by
  refine (wpIn_wide (n := 0)).1 (wpIn_rangeFunc ?_)
  intro fn hfn
  obtain ⟨rec, hrec⟩ : ∃ rec : LoopState → Option Code → Loop, rec = fun st pe => { state := st, pending := pe, fn, tmps := a.tmps, params := ps, assign, body, defers := w.heap.size } := ⟨_, rfl⟩
  obtain ⟨W1, hW1⟩ : ∃ W1, (w.alloc (.deferred (some []))).alloc (.loop (rec .ready none)) = W1 := ⟨_, rfl⟩
  have hL1 : W1.heap[w.heap.size + 1]? = some (.loop (rec .ready none)) := by
    rw [← hW1]; have := World.alloc_heap_new (w.alloc (.deferred (some []))) (.loop (rec .ready none)); rwa [World.size_alloc] at this
  have hK1 : W1.heap[w.heap.size]? = some (.deferred (some [])) := by
    rw [← hW1]; exact (Below.heap_alloc _ _ _ (by simp)).trans (World.alloc_heap_new w _)
  have hwr1 : Wr (fun k => lo ≤ k ∧ k ≤ w.heap.size + 1) w W1 := by rw [← hW1]; exact ((Wr.refl _ w).alloc _).alloc _
  have hI1 : I [] W1 := hI _ _ _ h0 hwr1
  refine ⟨w.heap.size + 1, [{ target := .collected w.heap.size, args := #[] }], W1, { target := .fn (.func gf) lb, args := #[.func (.yield (w.heap.size + 1)) #[] #[]] }, W1, gf,
    #[.func (.yield (w.heap.size + 1)) #[] #[]] ++ lb, W1, ?_, ?_, ?_, ?_, fun h => by simp [Fence.wide] at h, ?_⟩
  · rw [← hW1, hrec]; exact run_enterLoop_outer _ _ _ _ _
  · simp only [resolve, hg]
    simp [go_sem]
  · intro f' _; trivial
  · simp [invoke, go_sem, eg]
  · refine (hseq (w.heap.size + 1)
      (fun pre W => I pre W ∧ W.heap[w.heap.size + 1]? = some (.loop (rec .ready none)) ∧ W.heap[w.heap.size]? = some (.deferred (some [])))
      W1 (fun k _ hk => by rw [← hW1]; exact (Below.heap_alloc _ _ _ (by simp; omega)).trans (Below.heap_alloc _ _ _ hk))
      (fun s A B hs hw => ⟨hI s A B hs.1 (hw.mono fun k hk => ⟨hk.1, by omega⟩),
        (hw.block _ (Array.getElem?_eq_some_iff.1 hs.2.1).1 (by omega)).trans hs.2.1, (hw.block _ (Array.getElem?_eq_some_iff.1 hs.2.2).1 (by omega)).trans hs.2.2⟩)
      ?_ ⟨hI1, hL1, hK1⟩).mono ?_
    · rintro pre x post W hx ⟨hi, hl, hk⟩
      have hlt : w.heap.size + 1 < W.heap.size := (Array.getElem?_eq_some_iff.1 hl).1
      have hy := run_yield (P := P) (args := #[enc x]) hl (by rw [hrec]; simp [hps])
      rw [hrec] at hy
      refine ⟨fn, _, assign, body, hy, roundIn_of_wpIn hfn (hassign _ x W _ ⟨_, run_beginRound hl (by rw [hrec]), ?_⟩)⟩
      have hl2 : (W.putObj (w.heap.size + 1) (.loop { rec .ready none with state := .busy })).heap[w.heap.size + 1]? = some (.loop { rec .ready none with state := .busy }) := World.putObj_heap_same hlt
      have hk2 : (W.putObj (w.heap.size + 1) (.loop { rec .ready none with state := .busy })).heap[w.heap.size]? = some (.deferred (some [])) := (World.putObj_heap_other (by omega)).trans hk
      refine wpIn_mono (hbody _ pre x post _ hx (hI _ _ _ hi (Wr.putObj _ (by omega))) (by simp; omega)) ?_
      rintro e a3 W3 ⟨rfl, hk3, hi3⟩
      have hl3 := (hk3 (w.heap.size + 1) (by omega) (by omega)).trans hl2
      have hd3 := (hk3 w.heap.size (by omega) (by omega)).trans hk2
      have hend := run_endRound (P := P) none hl3
      refine ⟨_, _, hend, rfl, ⟨hI _ _ _ hi3 (Wr.putObj _ (by omega)), ?_, (World.putObj_heap_other (by omega)).trans hd3⟩, ?_⟩
      · rw [World.putObj_heap_same (Array.getElem?_eq_some_iff.1 hl3).1, hrec]
        rfl
      · intro k h1 h2
        exact (World.putObj_heap_other (by omega)).trans ((hk3 k h1 (by omega)).trans (World.putObj_heap_other (by omega)))
    · rintro e W2 ⟨⟨v, rfl⟩, hi, hl, hk⟩
      exact ⟨none, _, by have := run_endLoop (P := P) hl (by rw [hrec]; simp); rw [hrec] at this; exact this, hdone _ (hI _ _ _ hi (Wr.putObj _ (by omega))) ((World.putObj_heap_other (by omega)).trans hk)⟩

/-! leaving the function: the mark among its deferred calls -/
/-- what the body of a function that holds a range over a function must achieve -/
theorem calls_of_marks {f : FuncId} {fn : Func} {c : Code} {args : Array Value} {w : World} {R : Ending → World → Prop}
    (hf : P.funcs[f]? = some fn) (hb : fn.body = some c)
    (h : c.wp P (bodyPostM Fence.wide 0 P fn R) { tmps := args ++ Array.replicate (fn.ntmps - args.size) undef, defers := [] } w) : Calls P f args w R :=
  (callsIn_wide (n := 0)).1 (callsIn_of_wp_marks hf hb trivial (wpIn_wide.2 h))
end
end Go.Proofs.YtopfcfedcmpamaaDoor
