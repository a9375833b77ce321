/- Lists of rows, each row a slice of three ints in a block of its own; the laws' helpers on them. -/
import Derived.Test.YtlhihdcdbclcbaaDoorV
import Derived.Test.YtlhihdcdbclcbaaDoorD5r
import Derived.Test.YtlhihdcdbclcbaaDoorHInt
namespace Go.Proofs.YtlhihdcdbclcbaaDoor
set_option linter.unusedVariables false
set_option linter.unusedSimpArgs false
open Go.RowKit
attribute [local go_sem] Aft.cell

structure SRow where
  g : Nat
  t : Tri
def encSR (r : SRow) : List Value := [.slice (some ⟨r.g, 0, none⟩) 3 3]
theorem encSR_len (r : SRow) : (encSR r).length = 1 := rfl
theorem one_sr (r : SRow) : ∀ u ∈ encSR r, u.oneCell' = true := by simp [encSR, Value.oneCell']
def triL (t : Tri) : List Int := [t.s, t.n, t.p]
def triC (t : Tri) : Array Value := #[.int .i64 t.s, .int .i64 t.n, .int .i64 t.p]
theorem Ls.at_SR {w : World} {B : Nat} {A : Option Addr} {l : List SRow} (h : Ls w B encSR 1 A l) {k : Nat} (hk : k < l.length) :
    ∃ b off, A = some ⟨b, off, none⟩ ∧ b < B ∧ w.cell? ⟨b, off + k, none⟩ = some (.slice (some ⟨l[k].g, 0, none⟩) 3 3) := by
  obtain ⟨b, off, e, hb, hc⟩ := h (by omega)
  exact ⟨b, off, e, hb, by simpa using hc k hk 0 _ rfl⟩
/-- Each row stands in a block of its own, from base on. -/
structure RowsAt (w : World) (base : Nat) (R : List SRow) : Prop where
  row : ∀ r ∈ R, base ≤ r.g ∧ Blk w r.g 3 (triC r.t)
  nd : (R.map (·.g)).Nodup
section
variable {w w' : World} {base : Nat} {R X Z : List SRow}
theorem RowsAt.nil : RowsAt w base [] := ⟨fun _ h => absurd h (by simp), by simp⟩
theorem RowsAt.wr_ne {S : Nat → Prop} (h : RowsAt w base R) (hw : Wr S w w') (hn : ∀ r ∈ R, ¬ S r.g) : RowsAt w' base R :=
  ⟨fun r hr => ⟨(h.row r hr).1, (h.row r hr).2.wr hw (hn r hr)⟩, h.nd⟩
theorem RowsAt.on (h : RowsAt w base R) (hb : Below w.heap.size w w') : RowsAt w' base R := h.wr_ne (S := fun _ => False) (Wr.of_below hb) (fun _ _ h => h)
theorem RowsAt.mono {b' : Nat} (h : RowsAt w base R) (hb : b' ≤ base) : RowsAt w b' R := ⟨fun r hr => ⟨Nat.le_trans hb (h.row r hr).1, (h.row r hr).2⟩, h.nd⟩
theorem RowsAt.lt (h : RowsAt w base R) {r : SRow} (hr : r ∈ R) : r.g < w.heap.size := (h.row r hr).2.lt
theorem RowsAt.ls (h : RowsAt w base R) {r : SRow} (hr : r ∈ R) : Ls w w.heap.size encInt 1 (some ⟨r.g, 0, none⟩) (triL r.t) := fun _ =>
  ⟨r.g, 0, rfl, h.lt hr, fun i hi j u hu => by
    have hb := (h.row r hr).2
    have hj : j = 0 := by have := (List.getElem?_eq_some_iff.1 hu).1; rw [encInt_len] at this; omega
    subst hj
    rw [hb.cell]
    match i, hi, hu with
    | 0, _, hu => simpa [encInt, triL, triC] using hu
    | 1, _, hu => simpa [encInt, triL, triC] using hu
    | 2, _, hu => simpa [encInt, triL, triC] using hu⟩
theorem Blk.row3 {g : Nat} {t : Tri} (h : Blk w g 3 (triC t)) : Row1 w 3 1 (some ⟨g, 0, none⟩) 3 := fun _ =>
  ⟨g, fun i => (triC t).getD i undef, 3, rfl, ⟨_, h, rfl, fun i hi => by
    match i, hi with
    | 0, _ => rfl
    | 1, _ => rfl
    | 2, _ => rfl⟩, by omega⟩
theorem nodup_mid {α : Type} {a : α} : ∀ {l m : List α}, (l ++ m).Nodup → a ∉ l ++ m → (l ++ a :: m).Nodup
  | [], m, h, hn => List.nodup_cons.2 ⟨hn, h⟩
  | x :: l, m, h, hn => by
    obtain ⟨h1, h2⟩ := List.nodup_cons.1 h
    refine List.nodup_cons.2 ⟨fun hx => ?_, nodup_mid h2 fun hx => hn (by simp at hx ⊢; rcases hx with hx | hx <;> simp [hx])⟩
    simp at hx h1 hn
    rcases hx with hx | hx | hx
    · exact h1.1 hx
    · exact hn.1 hx.symm
    · exact h1.2 hx
theorem nodup_off {α : Type} {a : α} : ∀ {l m : List α}, (l ++ a :: m).Nodup → (l ++ m).Nodup ∧ a ∉ l ++ m
  | [], m, h => ⟨(List.nodup_cons.1 h).2, (List.nodup_cons.1 h).1⟩
  | x :: l, m, h => by
    obtain ⟨h1, h2⟩ := List.nodup_cons.1 h
    obtain ⟨h3, h4⟩ := nodup_off h2
    simp at h1 h4
    refine ⟨List.nodup_cons.2 ⟨by simp; exact ⟨h1.1, h1.2.2⟩, h3⟩, ?_⟩
    simp
    exact ⟨fun e => h1.2.1 e.symm, h4.1, h4.2⟩
theorem RowsAt.ins {g : Nat} {t : Tri} (h : RowsAt w base (X ++ Z)) (hg : base ≤ g) (hb : Blk w g 3 (triC t)) (hn : ∀ r ∈ X ++ Z, r.g ≠ g) : RowsAt w base (X ++ ⟨g, t⟩ :: Z) := by
  refine ⟨fun r hr => ?_, ?_⟩
  · rcases List.mem_append.1 hr with hr | hr
    · exact h.row r (by simp [hr])
    · rcases List.mem_cons.1 hr with rfl | hr
      · exact ⟨hg, hb⟩
      · exact h.row r (by simp [hr])
  · have h1 := h.nd
    rw [List.map_append] at h1
    rw [List.map_append, List.map_cons]
    refine nodup_mid h1 fun hx => ?_
    rw [← List.map_append] at hx
    obtain ⟨r, hr, e⟩ := List.mem_map.1 hx
    exact hn r hr e
theorem RowsAt.off {r : SRow} (h : RowsAt w base (X ++ r :: Z)) : RowsAt w base (X ++ Z) ∧ (∀ x ∈ X ++ Z, x.g ≠ r.g) ∧ base ≤ r.g ∧ Blk w r.g 3 (triC r.t) := by
  have h1 := h.nd
  rw [List.map_append, List.map_cons] at h1
  obtain ⟨h2, h3⟩ := nodup_off h1
  rw [← List.map_append] at h2 h3
  refine ⟨⟨fun x hx => h.row x ?_, h2⟩, fun x hx e => h3 (List.mem_map.2 ⟨x, hx, e⟩), h.row r (by simp)⟩
  rcases List.mem_append.1 hx with hx | hx
  · simp [hx]
  · simp [hx]
theorem RowsAt.upd {g : Nat} {t t' : Tri} (h : RowsAt w base (X ++ ⟨g, t⟩ :: Z)) (hw : Wr (fun q => q = g) w w') (hb : Blk w' g 3 (triC t')) : RowsAt w' base (X ++ ⟨g, t'⟩ :: Z) := by
  obtain ⟨h1, h2, h3, _⟩ := h.off
  exact (h1.wr_ne hw h2).ins h3 hb h2
theorem Vec.ne_of {α : Type} {sz n c : Nat} {t t' : TypeId} {en : α → List Value} {A : Option Addr} {l : List α} (h : Vec w base t en sz (.slice A n c) l) {g : Nat} {cs : Array Value} (hk : Blk w g t' cs) (ht : t' ≠ t) : ¬ blkOf A g := by
  rintro ⟨o, rfl⟩
  rcases h.2 with ⟨h2, _⟩ | ⟨g', cap, cur, h1, h2, h3, h4⟩
  · simp at h2
  · simp at h1
    obtain ⟨⟨rfl, _⟩, _⟩ := h1
    have e := hk.symm.trans h3
    simp at e
    exact ht e.2
theorem Vec.wr_b {α : Type} {S : Nat → Prop} {sz n c : Nat} {t : TypeId} {en : α → List Value} {A : Option Addr} {l : List α} (h : Vec w base t en sz (.slice A n c) l) (hw : Wr S w w') (hn : ∀ k, blkOf A k → ¬ S k) : Vec w' base t en sz (.slice A n c) l := by
  refine h.wr hw (fun k hk => hn k ?_)
  rcases h.2 with ⟨h2, _⟩ | ⟨g, cap, cur, h1, _⟩
  · simp at h2
    obtain ⟨rfl, _⟩ := h2
    simp [Value.ownBlock] at hk
  · simp at h1
    obtain ⟨rfl, _⟩ := h1
    simp [Value.ownBlock] at hk
    subst hk
    exact ⟨0, rfl⟩
theorem Ls.wr_ne {α : Type} {en : α → List Value} {sz B g o : Nat} {l : List α} {S : Nat → Prop} {a b : World} (h : Ls a B en sz (some ⟨g, o, none⟩) l) (hw : Wr S a b) (hn : ¬ S g) (hB : B ≤ a.heap.size) : Ls b B en sz (some ⟨g, o, none⟩) l := fun h0 => by
  obtain ⟨g', off, e, hb, hc⟩ := h h0
  cases e
  exact ⟨g, o, rfl, hb, fun i hi j u hu => (hw.cell (by omega) hn).trans (hc i hi j u hu)⟩
theorem Row1.wr {sz n : Nat} {t : TypeId} {g o : Nat} {S : Nat → Prop} {a b : World} (h : Row1 a t sz (some ⟨g, o, none⟩) n) (hw : Wr S a b) (hn : ¬ S g) : Row1 b t sz (some ⟨g, o, none⟩) n := fun h0 => by
  obtain ⟨g', f, m, e, hr, hm⟩ := h h0
  cases e
  exact ⟨g, f, m, rfl, hr.wr hw hn, hm⟩
end
/-- What a function that collects rows hands back, beside a bool. -/
def RetR (w : World) (L : List Tri) (b : Bool) (e : Ending) (w' : World) : Prop :=
  ∃ A c R, e = .returned (.tuple #[.slice A R.length c, .bool b]) ∧ Vec w' w.heap.size 37 encSR 1 (.slice A R.length c) R ∧ RowsAt w' w.heap.size R ∧ R.map (·.t) = L ∧ Below w.heap.size w w'

set_option maxHeartbeats 1000000 in
theorem eqIntSS_any (A A' : Option Addr) (c c' : Nat) (R R' : List SRow) (w : World) (hl : Ls w w.heap.size encSR 1 A R) (hl' : Ls w w.heap.size encSR 1 A' R')
    (hr : ∀ r ∈ R, Ls w w.heap.size encInt 1 (some ⟨r.g, 0, none⟩) (triL r.t)) (hr' : ∀ r ∈ R', Ls w w.heap.size encInt 1 (some ⟨r.g, 0, none⟩) (triL r.t)) (he : R.map (·.t) = R'.map (·.t)) (hn : R.length ≤ 1048576) :
    Calls Tryd.prog 10 #[.slice A R.length c, .slice A' R'.length c'] w fun e w' => e = .returned (.bool true) ∧ Below w.heap.size w w' := by
  have hlen : (R.length : Int) ≤ 1048576 := by omega
  have hll : R'.length = R.length := by have := congrArg List.length he; simp at this; exact this.symm
  rw [hll]
  have Hr := Lib.hid hr
  have Hr' := Lib.hid hr'
  have He := Lib.hid (show ∀ k (h : k < R.length) (h' : k < R'.length), R[k].t = R'[k].t from fun k h h' => by
    have h1 : (R.map (·.t))[k]? = (R'.map (·.t))[k]? := by rw [he]
    simpa [h, h'] using h1)
  clear hr hr' he
  go_enter Tryd.func10, Tryd.ntmps10
  go_wp2_with fail
  go_loopw [5] (fun i wr => ∃ (k : Nat), k ≤ R.length ∧ i = .int .i64 k ∧ Below w.heap.size w wr) (fun i _ => R.length - (intOf i).toNat)
  case atStart => exact ⟨0, Nat.zero_le _, rfl, Below.refl _ _⟩
  case round =>
    obtain ⟨k, hk, rfl, hb⟩ := hrel
    by_cases hlt : k < R.length
    · have hlt' : k < R'.length := by omega
      obtain ⟨b, off, rfl, hbb, hc0⟩ := (hl.below hb).at_SR hlt
      obtain ⟨b', off', rfl, hbb', hd0⟩ := (hl'.below hb).at_SR hlt'
      have hsz := hb.size
      have hq : b < wr.heap.size := by omega
      have hq' : b' < wr.heap.size := by omega
      have hi0 : (0 : Int) ≤ (k : Int) := by omega
      have hi1 : (k : Int) < (R.length : Int) := by omega
      have h1 := ((Hr.out _ (List.getElem_mem hlt)).below hb).more hsz
      have h2 := ((Hr'.out _ (List.getElem_mem hlt')).below hb).more hsz
      rw [← He.out k hlt hlt'] at h2
      generalize R[k].g = g1 at *
      generalize R'[k].g = g2 at *
      generalize R[k].t = t at *
      have HC : ∀ x : Aft wr, Calls Tryd.prog 20 #[.slice (some ⟨g1, 0, none⟩) 3 3, .slice (some ⟨g2, 0, none⟩) 3 3] x.w fun e w' => e = .returned (.bool true) ∧ Below x.w.heap.size x.w w' := fun x =>
        eqIntS_any (some ⟨g1, 0, none⟩) (some ⟨g2, 0, none⟩) 3 3 (triL t) x.w ((h1.below x.h).more x.h.size) ((h2.below x.h).more x.h.size) (show 3 ≤ 9223372036854775807 by omega)
      clear h1 h2
      go_wp2_with fail
      refine wp_region_calm (by kernel_rfl) (by kernel_rfl) ?_
      repeat (go_big_quiet_step ((go_at_call 20; exact Calls.calm (HC _))))
      refine wpQuiet_nil ?_
      rintro _ ⟨⟨w1, hb1⟩, rfl⟩
      go_wp2_with fail
      go_roundw
      case rel => exact ⟨k + 1, by omega, by go_num, blw hb hb1⟩
      case measure => simp [intOf]; omega
    · have hkk : k = R.length := by omega
      subst hkk
      go_wp2_with fail
      go_ret
      exact ⟨rfl, hb⟩

set_option maxHeartbeats 1000000 in
theorem markIntSS_any (A : Option Addr) (c : Nat) (R : List SRow) (k0 : Int) (w : World) (hl : Ls w w.heap.size encSR 1 A R) (hr : ∀ r ∈ R, Row1 w 3 1 (some ⟨r.g, 0, none⟩) 3) (hnd : (R.map (·.g)).Nodup)
    (hA : ∀ r ∈ R, ¬ blkOf A r.g) (hn : R.length ≤ 1048576) (h0 : 0 ≤ k0) (h1 : k0 ≤ 1048576) :
    Calls Tryd.prog 13 #[.slice A R.length c, .int .i64 k0] w fun e w' => e = .returned (.int .i64 (k0 + 3 * (R.length : Int))) ∧ Wr (fun q => ∃ r ∈ R, q = r.g) w w' ∧
      ∀ i (hi : i < R.length), Ls w' w'.heap.size encInt 1 (some ⟨R[i].g, 0, none⟩) (mkInt (k0 + 3 * (i : Int)) 3) := by
  have hlen : (R.length : Int) ≤ 1048576 := by omega
  have Hd := Lib.hid (show ∀ i j (hi : i < R.length) (hj : j < R.length), i ≠ j → R[i].g ≠ R[j].g from fun i j hi hj hne e => by
    have hp := List.pairwise_iff_getElem.1 hnd
    rcases Nat.lt_or_gt_of_ne hne with h | h
    · have h1 := hp i j (by simpa using hi) (by simpa using hj) h
      simp at h1
      exact h1 e
    · have h1 := hp j i (by simpa using hj) (by simpa using hi) h
      simp at h1
      exact h1 e.symm)
  have HA := Lib.hid hA
  clear hA hnd
  go_enter Tryd.func13, Tryd.ntmps13
  go_wp2_with fail
  go_loopw [1, 5] (fun kk i wr => ∃ k : Nat, k ≤ R.length ∧ i = .int .i64 k ∧ kk = .int .i64 (k0 + 3 * (k : Int)) ∧ Wr (fun q => ∃ r ∈ R, q = r.g) w wr ∧ Hid (∀ i (hi : i < R.length), i < k → Ls wr wr.heap.size encInt 1 (some ⟨R[i].g, 0, none⟩) (mkInt (k0 + 3 * (i : Int)) 3)) ∧ Hid (∀ i (hi : i < R.length), k ≤ i → Row1 wr 3 1 (some ⟨R[i].g, 0, none⟩) 3)) (fun _ i _ => R.length - (intOf i).toNat)
  case atStart => exact ⟨0, Nat.zero_le _, rfl, by go_num, Wr.refl _ _, fun i hi h => absurd h (Nat.not_lt_zero _), fun i hi _ => hr _ (List.getElem_mem hi)⟩
  case round =>
    clear hr
    obtain ⟨k, hk, rfl, rfl, hw, hdone, hrow⟩ := hrel
    by_cases hlt : k < R.length
    · obtain ⟨b, off, rfl, hbb, hc⟩ := hl.at_SR hlt
      have hbn : ∀ r ∈ R, r.g ≠ b := fun r hr e => HA.out r hr ⟨off, by rw [e]⟩
      have hc0 := (hw.cell (o := off + k) hbb (fun ⟨r, hr, e⟩ => hbn r hr e.symm)).trans hc
      have hkn : (k : Int) < (R.length : Int) := by omega
      have hrk := hrow.out k hlt (Nat.le_refl _)
      go_wp2_with fail
      refine (markIntS_any (some ⟨R[k].g, 0, none⟩) 3 3 (k0 + 3 * (k : Int)) wr hrk (by omega) (by omega) (by omega)).mono ?_
      rintro e w1 ⟨rfl, hw1, hl1⟩
      have hw2 : Wr (fun q => ∃ r ∈ R, q = r.g) wr w1 := hw1.mono fun q hq => by
        obtain ⟨o, e⟩ := hq
        simp at e
        exact ⟨R[k], List.getElem_mem hlt, e.1.symm⟩
      have hne : ∀ i (hi : i < R.length), i ≠ k → ¬ blkOf (some ⟨R[k].g, 0, none⟩) R[i].g := fun i hi h hq => by
        obtain ⟨o, e⟩ := hq
        simp at e
        exact Hd.out i k hi hlt h e.1.symm
      have Hdone := Lib.hid (show ∀ i (hi : i < R.length), i < k + 1 → Ls w1 w1.heap.size encInt 1 (some ⟨R[i].g, 0, none⟩) (mkInt (k0 + 3 * (i : Int)) 3) from fun i hi h => by
        rcases Nat.lt_succ_iff_lt_or_eq.1 h with h | rfl
        · exact ((hdone.out i hi h).wr_ne hw1 (hne i hi (by omega)) (Nat.le_refl _)).more hw1.size
        · exact hl1)
      have Hrow := Lib.hid (show ∀ i (hi : i < R.length), k + 1 ≤ i → Row1 w1 3 1 (some ⟨R[i].g, 0, none⟩) 3 from fun i hi h => (hrow.out i hi (by omega)).wr hw1 (hne i hi (by omega)))
      clear hdone hrow hne hl1 hrk hbn
      go_wp2_with fail
      go_roundw
      case rel => exact ⟨k + 1, by omega, by go_num, by go_num, hw.trans hw2, Hdone, Hrow⟩
      case measure => simp [intOf]; omega
    · have hkk : k = R.length := by omega
      subst hkk
      go_wp2_with fail
      go_ret
      exact ⟨rfl, hw, fun i hi => hdone.out i hi hi⟩

set_option maxHeartbeats 1000000 in
theorem heldIntSS_any (A : Option Addr) (c : Nat) (R : List SRow) (k0 : Int) (w : World) (hl : Ls w w.heap.size encSR 1 A R)
    (hm : ∀ i (hi : i < R.length), Ls w w.heap.size encInt 1 (some ⟨R[i].g, 0, none⟩) (mkInt (k0 + 3 * (i : Int)) 3)) (hn : R.length ≤ 1048576) (h0 : 0 ≤ k0) (h1 : k0 ≤ 1048576) :
    Calls Tryd.prog 14 #[.slice A R.length c, .int .i64 k0] w fun e w' => e = .returned (.int .i64 (k0 + 3 * (R.length : Int))) ∧ w = w' := by
  have hlen : (R.length : Int) ≤ 1048576 := by omega
  have Hm := Lib.hid hm
  clear hm
  go_enter Tryd.func14, Tryd.ntmps14
  go_wp2_with fail
  go_loop [1, 5] (fun kk i => ∃ k : Nat, k ≤ R.length ∧ i = .int .i64 k ∧ kk = .int .i64 (k0 + 3 * (k : Int))) (fun _ i => R.length - (intOf i).toNat)
  case atStart => exact ⟨0, Nat.zero_le _, rfl, by go_num⟩
  case round =>
    obtain ⟨k, hk, rfl, rfl⟩ := hrel
    by_cases hlt : k < R.length
    · obtain ⟨b, off, rfl, hbb, hc0⟩ := hl.at_SR hlt
      have hkn : (k : Int) < (R.length : Int) := by omega
      go_wp2_with fail
      refine (heldIntS_any (some ⟨R[k].g, 0, none⟩) 3 3 (k0 + 3 * (k : Int)) w (Hm.out k hlt) (by omega) (by omega) (by omega)).mono ?_
      rintro e _ ⟨rfl, rfl⟩
      have hnn : ¬ (k0 + 3 * (k : Int) + ((3 : Nat) : Int)) < 0 := by omega
      go_wp2_with fail
      go_round
      case rel => exact ⟨k + 1, by omega, by go_num, by go_num⟩
      case measure => simp [intOf]; omega
    · have hkk : k = R.length := by omega
      subst hkk
      go_wp2_with fail
      go_ret
      exact ⟨rfl, rfl⟩

end Go.Proofs.YtlhihdcdbclcbaaDoor
