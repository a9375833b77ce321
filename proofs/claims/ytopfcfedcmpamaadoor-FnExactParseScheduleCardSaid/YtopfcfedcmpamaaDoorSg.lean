/- Steps of a region that draws its order: appends, rows of one. -/
import Derived.Test.YtopfcfedcmpamaaDoorVs
import Derived.Deep.RegionLaw
import Derived.Deep.RegionHeld3
namespace Go.Proofs.YtopfcfedcmpamaaDoor
set_option linter.unusedVariables false
set_option linter.unusedSimpArgs false
open Go.RowKit
attribute [local go_sem] Aft.cell

theorem step_appG {P : Program} {α : Type} {en : α → List Value} {ops : Array Oper} {o : Oper} {a : Act} {w : World} {K : Act → World → Prop} {Q : Exit → Act → World → Prop} {E : Prop} (hgd : o.guard = none) (s x : Operand) (t : TypeId)
    (ho : o.op = .call { callee := .builtin .append, args := #[s, x], argTypes := #[t, t] })
    {base : Nat} (e : TypeId) (z : Value) (size bytes : Nat) (ht : P.underlying t = some (.slice e)) (hi : (P.info? e).map (fun i => (i.zero, i.size, i.bytes)) = some (some z, size, bytes))
    (hzs : z.cells.size = size) (hsz : 0 < size) (hen : ∀ a, (en a).length = size) (h1 : ∀ a, ∀ u ∈ en a, u.oneCell' = true)
    (A : Option Addr) (c : Nat) (l : List α) (hs : a.eval s = .slice A l.length c) (hv : Vec w base e en size (.slice A l.length c) l)
    (A2 : Option Addr) (c2 B2 : Nat) (l2 : List α) (hx : a.eval x = .slice A2 l2.length c2) (hr : Ls w B2 en size A2 l2)
    (h63 : l.length + l2.length ≤ maxLen) (hbytes : (l.length + l2.length) * bytes ≤ 140737488355328) (hbase : base ≤ w.heap.size)
    (h : ∀ A' c' w', Vec w' base e en size (.slice A' (l ++ l2).length c') (l ++ l2) → Wr (blkOf A) w w' → K (a.put o.dst (.slice A' (l ++ l2).length c')) w') :
    if Region.wanted o (yielded ops a.tmps) = true then Oper.wp P o a w K Q else E := by
  obtain ⟨A', c', w', hrun, h2, h3⟩ := run_app (P := P) t o.type e z size bytes ht hi hzs hsz hen h1 A c l hv A2 c2 B2 l2 hr h63 hbytes hbase
  have hw : Region.wanted o (yielded ops a.tmps) = true := by simp [Region.wanted, hgd]
  rw [if_pos hw]
  unfold Oper.wp
  simp [execOp, ho, resolve, invoke, builtin, hs, hx, hrun, Result.andThen]
  have h4 := h A' c' w' h2 h3
  simp only [List.length_append] at h4
  exact h4

/-- A region under way: the condition that is kept may be sharpened. -/
theorem wpAnyH_turn {P : Program} {ops : Array Oper} {Q : Exit → Act → World → Prop} {md : Region.Mode} {S S2 : World → Prop} (himp : ∀ w, S2 w → S w) :
    ∀ (fuel : Nat) (listed : Array Bool) (a : Act) (w : World), wpAnyH P md ops Q S2 fuel listed a w → wpAnyH P md ops Q S fuel listed a w
  | 0, _, _, _, h => h
  | fuel + 1, _, _, _, h => ⟨h.1, fun i hi => wpOp_mono (fun a' w' h' => ⟨himp _ h'.1, wpAnyH_turn himp fuel _ a' w' h'.2⟩) (h.2 i hi)⟩
theorem wpAnyH_turnAt {P : Program} {ops : Array Oper} {Q : Exit → Act → World → Prop} {md : Region.Mode} {S S2 : World → Prop} {fuel : Nat} {listed : Array Bool} {a : Act} {w : World} (himp : ∀ w, S2 w → S w) (h2 : S2 w)
    (h : S2 w → wpAnyH P md ops Q S2 fuel listed a w) : wpAnyH P md ops Q S fuel listed a w := wpAnyH_turn himp _ _ _ _ (h h2)

theorem step_appN {P : Program} {α : Type} {en : α → List Value} {ops : Array Oper} {o : Oper} {a : Act} {w : World} {K : Act → World → Prop} {Q : Exit → Act → World → Prop} {E : Prop} (hgd : o.guard = none) (s x : Operand) (t : TypeId)
    (ho : o.op = .call { callee := .builtin .append, args := #[s, x], argTypes := #[t, t] })
    {base : Nat} (e : TypeId) (z : Value) (size bytes : Nat) (ht : P.underlying t = some (.slice e)) (hi : (P.info? e).map (fun i => (i.zero, i.size, i.bytes)) = some (some z, size, bytes))
    (hzs : z.cells.size = size) (hsz : 0 < size) (hen : ∀ a, (en a).length = size) (h1 : ∀ a, ∀ u ∈ en a, u.oneCell' = true)
    (A : Option Addr) (c N1 : Nat) (l : List α) (hN1 : l.length = N1) (hs : a.eval s = .slice A N1 c) (hv : Vec w base e en size (.slice A N1 c) l)
    (A2 : Option Addr) (c2 B2 N2 : Nat) (l2 : List α) (hN2 : l2.length = N2) (hx : a.eval x = .slice A2 N2 c2) (hr : Ls w B2 en size A2 l2)
    (h63 : N1 + N2 ≤ maxLen) (hbytes : (N1 + N2) * bytes ≤ 140737488355328) (hbase : base ≤ w.heap.size) (N : Nat) (hN : N1 + N2 = N)
    (h : ∀ A' c' w', Vec w' base e en size (.slice A' N c') (l ++ l2) → Wr (blkOf A) w w' → K (a.put o.dst (.slice A' N c')) w') :
    if Region.wanted o (yielded ops a.tmps) = true then Oper.wp P o a w K Q else E := by
  subst hN1 hN2
  obtain ⟨A', c', w', hrun, h2, h3⟩ := run_app (P := P) t o.type e z size bytes ht hi hzs hsz hen h1 A c l hv A2 c2 B2 l2 hr h63 hbytes hbase
  have hl : (l ++ l2).length = N := by rw [List.length_append]; exact hN
  rw [hl] at hrun h2
  have hw : Region.wanted o (yielded ops a.tmps) = true := by simp [Region.wanted, hgd]
  rw [if_pos hw]
  unfold Oper.wp
  simp [execOp, ho, resolve, invoke, builtin, hs, hx, hrun, Result.andThen]
  exact h A' c' w' h2 h3

section
variable {α : Type} {w w' : World} {base B : Nat} {t : TypeId} {en : α → List Value} {sz : Nat} {l : List α} {g N : Nat} {cs : Array Value}
theorem Blk.new_at (h : w.heap.size = N) : Blk (w.alloc (.cells cs t)) N t cs := by subst h; exact Blk.new w t cs
theorem Blk.drew (h : Blk w g t cs) : Blk w.drew g t cs := h
theorem Vec.drew {v : Value} (h : Vec w base t en sz v l) : Vec w.drew base t en sz v l := h.on (Below.refl _ _).drew
theorem Vec.empty_at (h : Blk w N t #[]) (hb : base ≤ N) : Vec w base t en sz (.slice (Option.some ⟨N, 0, none⟩) 0 0) ([] : List α) := by
  refine ⟨by simp, .inr ⟨N, 0, #[], by simp, hb, h, Nat.le_refl _, by unfold maxLen; omega, by simp, by simp⟩⟩
theorem Ls.blk {x : α} (h : Blk w N t (en x).toArray) : Ls w (N + 1) en sz (some ⟨N, 0, none⟩) [x] := fun _ => ⟨N, 0, rfl, Nat.lt_succ_self N, fun i hi j u hu => by
  obtain rfl : i = 0 := by simp at hi; omega
  rw [h.cell]; simpa using hu⟩
theorem Ls.blkc {x : α} (h : Blk w N t cs) (hc : cs = (en x).toArray) : Ls w (N + 1) en sz (some ⟨N, 0, none⟩) [x] := by subst hc; exact Ls.blk h
theorem Ls.none_ {A : Option Addr} : Ls w B en sz A ([] : List α) := fun h => absurd h (Nat.lt_irrefl _)
theorem Ls.take_ {A : Option Addr} (h : Ls w B en sz A l) (k : Nat) : Ls w B en sz A (l.take k) := fun hn => by
  obtain ⟨b, off, rfl, hb, hc⟩ := h (by simp at hn; omega)
  refine ⟨b, off, rfl, hb, fun i hi j u hu => hc i (by simp at hi; omega) j u ?_⟩
  rwa [List.getElem_take] at hu
theorem Ls.drop_ {b off : Nat} (h : Ls w B en sz (some ⟨b, off, none⟩) l) (k : Nat) (hk : k ≤ l.length) : Ls w B en sz (some ⟨b, off + k * sz, none⟩) (l.drop k) := fun hn => by
  obtain ⟨b', off', he, hb, hc⟩ := h (by simp at hn; omega)
  cases he
  refine ⟨b, off + k * sz, rfl, hb, fun i hi j u hu => ?_⟩
  rw [List.getElem_drop] at hu
  have := hc (k + i) (by simp at hi; omega) j u hu
  rwa [Nat.add_mul, ← Nat.add_assoc] at this
end

end Go.Proofs.YtopfcfedcmpamaaDoor
