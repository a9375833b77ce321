/- What came in, read as plain lists: structs of one-cell fields, slices of elements. -/
import Derived.Test.YtopfcfedcmpamaaDoorL
import Derived.Test.YtopfcfedcmpamaaDoorRows
import Derived.ProofKit
import Derived.OpenShut
import Derived.ShutString
import Derived.ChangeOld
import Derived.Deep.Slices
namespace Go.Proofs.YtopfcfedcmpamaaDoor
set_option linter.unusedVariables false
set_option linter.unusedSimpArgs false
open Go.RowKit Go.ChangeShapes Go.WideShapes
set_option maxRecDepth 100000
open Go.ChangeMaps (open_string)

theorem rng_of {n : Int} (h : (Lit.int .i64 n).wf = true) : Rng n := bounds_i64 h
theorem wf_of_rng {n : Int} (h : Rng n) : (Lit.int .i64 n).wf = true := by
  unfold Rng at h
  exact WalkArith.wf_i64 (by omega)

section
variable {H : Type} {enc : TypeId × Value → H} {P : Program} {w : World} {base : Nat} {spare : Nat → Bool} {held : Bool}

theorem struct_at {t : TypeId} {fs : Array Field} {fuel : Nat} {cs : List Value} {x : DataW H × List MemPlace} (ht : P.underlying t = some (.struct fs)) (hc : P.cellsOf t = fs.size)
    (hf : fs.toList.zipIdx.all (fun p => p.1.offset == p.2 && P.cellsOf p.1.type == 1) = true) (h : DataW.trod enc P w base spare held fuel t cs = some x) :
    cs.length = fs.size ∧ ∃ n, ∀ (i : Nat) (f : Field), fs[i]? = some f → ∃ c y, cs[i]? = some c ∧ DataW.trod enc P w base spare held n f.type [c] = some y := by
  obtain ⟨xs, n, _, _, hl, hxl, hfs⟩ := DataW.trod_struct ht h
  refine ⟨by omega, n, fun i f hi => ?_⟩
  have h1 := hfs i f hi
  have hlt : i < fs.size := (Array.getElem?_eq_some_iff.1 hi).1
  have hm : (f, i) ∈ fs.toList.zipIdx := by
    rw [List.mem_zipIdx_iff_getElem?]
    simpa using hi
  have h2 := List.all_eq_true.1 hf _ hm
  simp at h2
  obtain ⟨h3, h4⟩ := h2
  rw [h3, h4] at h1
  have hlc : i < cs.length := by omega
  have e : (cs.drop i).take 1 = [cs[i]] := by
    rw [List.drop_eq_getElem_cons hlc]; rfl
  rw [e, List.getElem?_eq_getElem (by omega)] at h1
  exact ⟨cs[i], _, List.getElem?_eq_getElem hlc, h1⟩

theorem slice_at {t e : TypeId} {fuel : Nat} {A : Option Addr} {len cap : Nat} {x : DataW H × List MemPlace} {sz : Nat} {α : Type} {en : α → List Value} {ok : α → Prop}
    (ht : P.underlying t = some (.slice e)) (hc : P.cellsOf e = sz) (hs : 0 < sz)
    (hel : ∀ n cs y, DataW.trod enc P w base spare held n e cs = some y → ∃ a, cs = en a ∧ ok a)
    (h : DataW.trod enc P w base spare held fuel t [.slice A len cap] = some x) :
    ∃ l : List α, l.length = len ∧ len ≤ cap ∧ cap ≤ maxLen ∧ Ls w w.heap.size en sz A l ∧ ∀ a ∈ l, ok a := by
  rcases Deep.open_slice ht h with ⟨hcs, _⟩ | ⟨a, len', cap', m, n, D, Pl, hcs, hb, hl, hm, hmm, _, hx⟩
  · simp at hcs
    obtain ⟨rfl, rfl, rfl⟩ := hcs
    exact ⟨[], rfl, Nat.le_refl _, Nat.zero_le _, fun hn => absurd hn (by simp), by simp⟩
  · simp at hcs
    obtain ⟨rfl, rfl, rfl⟩ := hcs
    have hlm : len ≤ m := by rw [hmm]; split <;> omega
    have each : ∀ i : Fin len, ∃ q : α, ok q ∧ ∀ j u, (en q)[j]? = some u → w.cell? ((a.add (i * sz)).add j) = some u := by
      intro i
      obtain ⟨cs', h1, h2⟩ := hx i (by omega)
      rw [hc] at h1
      obtain ⟨q, rfl, hok⟩ := hel _ _ _ h2
      obtain ⟨_, hlen, hcell⟩ := World.cells?_some h1
      refine ⟨q, hok, fun j u hu => ?_⟩
      have hj : j < sz := by
        have := (List.getElem?_eq_some_iff.1 hu).1
        omega
      rw [hcell j hj, hu]
    have hne : ∀ i : Fin len, ∀ q : α, (∀ j u, (en q)[j]? = some u → w.cell? ((a.add (i * sz)).add j) = some u) → True := fun _ _ _ => trivial
    refine ⟨List.ofFn fun i => Classical.choose (each i), by simp, hl, hm, ?_, ?_⟩
    · intro hn
      simp at hn
      obtain ⟨b, off, spot⟩ := a
      have hcell0 : ∃ u, w.cell? (⟨b, off, spot⟩ : Addr) = some u := by
        obtain ⟨cs', h1, h2⟩ := hx 0 (by omega)
        rw [hc] at h1
        obtain ⟨_, hlen, hcell⟩ := World.cells?_some h1
        have := hcell 0 hs
        rw [List.getElem?_eq_getElem (by omega)] at this
        simp [Addr.add] at this
        exact ⟨_, this⟩
      obtain ⟨u, hu⟩ := hcell0
      have hspot : spot = none := by simpa [Addr.add] using World.cell?_spot hu
      subst hspot
      refine ⟨b, off, rfl, World.block_lt_of_cell? w ⟨b, off, none⟩ hu, fun i hi j v hv => ?_⟩
      simp at hi
      have hch := (Classical.choose_spec (each ⟨i, hi⟩)).2 j v (by simpa using hv)
      simpa [Addr.add_lit] using hch
    · intro q hq
      rw [List.mem_ofFn] at hq
      obtain ⟨i, rfl⟩ := hq
      exact (Classical.choose_spec (each i)).1
end


section
variable {H : Type} {enc : TypeId × Value → H} {w : World} {base b0 : Nat} {spare : Nat → Bool} {held : Bool} {r : Reach} {v : Value} {d : DataW H} {ps : List MemPlace} {n : Nat} {cs : List Value} {y : DataW H × List MemPlace}

theorem int_at {c : Value} (h : DataW.trod enc Tryd.prog w base spare held n 3 [c] = some y) : ∃ k : Int, c = .int .i64 k ∧ Rng k := by
  obtain ⟨k, e, _, hw⟩ := DataW.trod_int Tryd.underlying3 h
  simp at e
  exact ⟨k, e, rng_of hw⟩
theorem str_at {c : Value} (h : DataW.trod enc Tryd.prog w base spare held n 9 [c] = some y) : ∃ k : ByteArray, c = .string k ∧ k.size ≤ maxLen := by
  obtain ⟨k, e, _, hw⟩ := DataW.trod_string Tryd.underlying9 h
  simp at e
  exact ⟨k, e, hw⟩
theorem open_Int (hval : Value.okWide Tryd.prog w r b0 3 v) (h : DataW.Trod enc Tryd.prog w base spare held 3 v d ps) : ∃ a : Int, v = .int .i64 a ∧ Rng a := by
  obtain ⟨a, e, _, _, hw⟩ := open_int Tryd.underlying3 hval h
  exact ⟨a, e, rng_of hw⟩
theorem open_Bool (hval : Value.okWide Tryd.prog w r b0 4 v) (h : DataW.Trod enc Tryd.prog w base spare held 4 v d ps) : ∃ a : Bool, v = .bool a ∧ True := by
  obtain ⟨a, e, _, _⟩ := open_bool Tryd.underlying4 hval h
  exact ⟨a, e, trivial⟩
theorem open_Str (hval : Value.okWide Tryd.prog w r b0 9 v) (h : DataW.Trod enc Tryd.prog w base spare held 9 v d ps) : ∃ a : ByteArray, v = .string a ∧ a.size ≤ maxLen := by
  obtain ⟨a, e, _, _, hw⟩ := open_string Tryd.underlying9 hval h
  exact ⟨a, e, hw⟩
theorem Rule_at (h : DataW.trod enc Tryd.prog w base spare held n 66 cs = some y) : ∃ a : RuleD, cs = encRule a ∧ okRule a := by
  obtain ⟨hl, m, hf⟩ := struct_at Tryd.underlying66 (by kernel_rfl) (by kernel_rfl) h
  obtain ⟨c0, y0, e0, g0⟩ := hf 0 _ rfl
  obtain ⟨c1, y1, e1, g1⟩ := hf 1 _ rfl
  obtain ⟨c2, y2, e2, g2⟩ := hf 2 _ rfl
  obtain ⟨c3, y3, e3, g3⟩ := hf 3 _ rfl
  obtain ⟨k0, rfl, r0⟩ := int_at g0
  obtain ⟨k1, rfl, r1⟩ := int_at g1
  obtain ⟨k2, rfl, r2⟩ := int_at g2
  obtain ⟨k3, rfl, r3⟩ := int_at g3
  match cs, hl with
  | [x0, x1, x2, x3], _ =>
    simp at e0 e1 e2 e3
    subst e0 e1 e2 e3
    exact ⟨⟨k0, k1, k2, k3⟩, rfl, ⟨r0, r1, r2, r3⟩⟩
theorem open_Rule (hval : Value.okWide Tryd.prog w r b0 66 v) (h : DataW.Trod enc Tryd.prog w base spare held 66 v d ps) : ∃ a : RuleD, v = .agg #[.int .i64 a.s, .int .i64 a.e, .int .i64 a.d, .int .i64 a.a] ∧ okRule a := by
  obtain ⟨cs, rfl, _⟩ := okWide_struct Tryd.underlying66 hval
  obtain ⟨fuel, hf⟩ := h
  obtain ⟨a, e, hok⟩ := Rule_at hf
  exact ⟨a, by rw [Value.agg.injEq]; exact Array.toList_inj.1 e, hok⟩
theorem open_RuleS (hval : Value.okWide Tryd.prog w r b0 35 v) (h : DataW.Trod enc Tryd.prog w base spare held 35 v d ps) : ∃ (A : Option Addr) (c : Nat) (l : List RuleD), v = .slice A l.length c ∧ okSl w encRule 4 okRule A l := by
  obtain ⟨A, n, c, rfl⟩ := okWide_slice Tryd.underlying35 hval
  obtain ⟨fuel, hf⟩ := h
  obtain ⟨l, rfl, h1, h2, h3, h4⟩ := slice_at Tryd.underlying35 (sz := 4) (by kernel_rfl) (by omega) (fun n cs y hh => Rule_at hh) hf
  exact ⟨A, c, l, rfl, h3, h4, by omega⟩
end

end Go.Proofs.YtopfcfedcmpamaaDoor
