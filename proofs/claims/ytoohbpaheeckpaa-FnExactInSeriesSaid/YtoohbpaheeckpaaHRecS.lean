/- Contracts of the laws' helpers for a list of records. -/
import Derived.Test.YtoohbpaheeckpaaHRecord
namespace Go.Proofs.Ytoohbpaheeckpaa
set_option linter.unusedVariables false
set_option linter.unusedSimpArgs false
open Go.RowKit
attribute [local go_sem] Aft.cell

/-- What a record says, wherever its events lie. -/
def dat (r : Rec) : Int × Int × Int × List Ev := (r.id, r.series, r.made, r.evs)
/-- Each record's events can be read. -/
def EvR (w : World) (l : List Rec) : Prop := ∀ r ∈ l, Ls w w.heap.size encEv 2 r.A r.evs
theorem EvR.below {w w' : World} {l : List Rec} (h : EvR w l) (hb : Below w.heap.size w w') : EvR w' l := fun r hr => ((h r hr).below hb).more hb.size
def totR (l : List Rec) : Nat := (l.map fun r => r.evs.length).sum
theorem totR_snoc {l : List Rec} {k : Nat} (h : k < l.length) : totR (l.take (k + 1)) = totR (l.take k) + l[k].evs.length := by
  unfold totR
  rw [List.take_succ_eq_append_getElem h, List.map_append, List.sum_append]
  simp
theorem totR_take (l : List Rec) (k : Nat) : totR (l.take k) ≤ totR l := by
  have h : totR l = totR (l.take k) + totR (l.drop k) := by
    unfold totR
    rw [← List.sum_append, ← List.map_append, List.take_append_drop]
  omega
theorem totR_mem {l : List Rec} {r : Rec} (h : r ∈ l) : r.evs.length ≤ totR l := by
  obtain ⟨i, hi, rfl⟩ := List.mem_iff_getElem.1 h
  have h1 := totR_snoc hi
  have h2 := totR_take l (i + 1)
  omega
theorem totR_dat {l l' : List Rec} (h : l'.map dat = l.map dat) : totR l' = totR l := by
  have e : ∀ l : List Rec, totR l = ((l.map dat).map fun d => d.2.2.2.length).sum := fun l => by
    unfold totR dat
    rw [List.map_map]
    rfl
  rw [e, e, h]

/-- Each record's events lie in a block of its own behind block g, ahead of hi; no two in the same. -/
structure EvO (w : World) (g hi : Nat) (l : List Rec) : Prop where
  own : ∀ r ∈ l, ∃ b, r.A = some ⟨b, 0, none⟩ ∧ g < b ∧ b < hi ∧ Own w b 41 encEv 2 r.evs
  apart : l.Pairwise fun a b => a.A ≠ b.A
theorem EvO.evr {w : World} {g hi : Nat} {l : List Rec} (h : EvO w g hi l) : EvR w l := fun r hr => by
  obtain ⟨b, h1, _, _, h2⟩ := h.own r hr
  rw [h1]
  exact h2.ls encEv_len
theorem EvO.below {w w' : World} {g hi : Nat} {l : List Rec} (h : EvO w g hi l) (hb : Below w.heap.size w w') : EvO w' g hi l :=
  ⟨fun r hr => by
    obtain ⟨b, h1, h2, h4, h3⟩ := h.own r hr
    exact ⟨b, h1, h2, h4, h3.below hb h3.lt⟩, h.apart⟩

/-- A list of records that a function has made of its own. -/
def MadeRs (w : World) (l : List Rec) (e : Ending) (w' : World) : Prop :=
  ∃ (g : Nat) (l' : List Rec), w.heap.size ≤ g ∧ l'.length = l.length ∧ l'.map dat = l.map dat ∧ e = .returned (.slice (some ⟨g, 0, none⟩) l.length l.length) ∧ Own w' g 37 encRec 4 l' ∧ EvO w' g w'.heap.size l' ∧ Below w.heap.size w w'

theorem Ls.at_Record {w : World} {B : Nat} {A : Option Addr} {l : List Rec} (h : Ls w B encRec 4 A l) {k : Nat} (hk : k < l.length) :
    ∃ b off, A = some ⟨b, off, none⟩ ∧ b < B ∧ w.cell? ⟨b, off + k * 4, none⟩ = some (.int .i64 l[k].id) ∧ w.cell? ⟨b, off + k * 4 + 1, none⟩ = some (.int .i64 l[k].series) ∧ w.cell? ⟨b, off + k * 4 + 2, none⟩ = some (.int .i64 l[k].made) ∧ w.cell? ⟨b, off + k * 4 + 3, none⟩ = some (.slice l[k].A l[k].evs.length l[k].c) := by
  obtain ⟨b, off, e, hb, hc⟩ := h (by omega)
  exact ⟨b, off, e, hb, hc k hk 0 _ rfl, hc k hk 1 _ rfl, hc k hk 2 _ rfl, hc k hk 3 _ rfl⟩

set_option maxHeartbeats 1000000 in
theorem szRecordS_sz (A : Option Addr) (c : Nat) (l : List Rec) (left : Int) (w : World) (hl : Ls w w.heap.size encRec 4 A l) (hn : l.length ≤ maxLen) (hok : ∀ r ∈ l, r.evs.length ≤ maxLen) (h0 : 0 ≤ left) (h1 : left ≤ 1048576) :
    Calls Try.prog 6 #[.slice A l.length c, .int .i64 left] w (SzS w left (l.length + totR l ≤ 1048576)) := by
  unfold maxLen at hn
  have hlen : (l.length : Int) ≤ 9223372036854775807 := by omega
  by_cases h : (l.length : Int) ≤ left
  · go_enter Try.func6, Try.ntmps6
    go_wp2_with fail
    go_loopw [1, 5] (fun lf i wr => ∃ (k : Nat) (r : Int), k ≤ l.length ∧ i = .int .i64 k ∧ lf = .int .i64 r ∧ 0 ≤ r ∧ r ≤ left ∧ Hid (r + (l.length : Int) + (totR (l.take k) : Int) = left) ∧ Below w.heap.size w wr) (fun _ i _ => l.length - (intOf i).toNat)
    case atStart => exact ⟨0, left - l.length, Nat.zero_le _, rfl, rfl, by omega, by omega, by unfold Hid; simp [totR] <;> omega, Below.refl _ _⟩
    case round =>
      obtain ⟨k, r, hk, rfl, rfl, hr0, hr1, hs, hb⟩ := hrel
      by_cases hlt : k < l.length
      · obtain ⟨b, off, rfl, hbb, hc0, hc1, hc2, hc3⟩ := (hl.below hb).at_Record hlt
        have hml := hok l[k] (List.getElem_mem hlt)
        have Ht := Lib.hid (totR_snoc hlt)
        go_wp2_with fail
        refine (szRecord_any _ _ _ _ _ l[k].evs.length _ _ hml hr0 (by omega)).mono ?_
        by_cases hq : (l[k].evs.length : Int) ≤ r
        · rw [if_pos hq]
          rintro e w1 ⟨rfl, hb1⟩
          have hq2 : 0 ≤ r - (l[k].evs.length : Int) := by omega
          have hq3 : r - (l[k].evs.length : Int) ≤ left := by omega
          go_wp2_with fail
          go_roundw
          case rel => exact ⟨k + 1, r - l[k].evs.length, by omega, by go_num, rfl, hq2, hq3, by have := hs.out; have := Ht.out; unfold Hid; rw [Ht.out]; omega, blw hb hb1⟩
          case measure => simp [intOf]; omega
        · rw [if_neg hq]
          rintro e w1 ⟨rfl, hb1⟩
          go_wp2_with fail
          go_ret
          exact ⟨-1, rfl, by omega, by omega, fun h => absurd h (by omega), blw hb hb1⟩
      · have hkk : k = l.length := by omega
        subst hkk
        go_wp2_with fail
        go_ret
        exact ⟨r, rfl, hr1, by omega, fun _ => by have := hs.out; rw [List.take_length] at this; omega, hb⟩
  · go_enter Try.func6, Try.ntmps6
    go_wp2_with fail
    go_ret
    exact ⟨-1, rfl, by omega, by omega, fun h => absurd h (by omega), Below.refl _ _⟩

set_option maxHeartbeats 2000000 in
theorem toRecordS_any (A : Option Addr) (c : Nat) (l : List Rec) (w : World) (hl : Ls w w.heap.size encRec 4 A l) (he : EvR w l) (hn : l.length + totR l ≤ 1048576) :
    Calls Try.prog 8 #[.slice A l.length c] w (MadeRs w l) := by
  have hmk := run_make_of (P := Try.prog) (t := 25) (e := 37) (z := .agg #[.int .i64 0, .int .i64 0, .int .i64 0, .slice none 0 0]) (size := 4) (bytes := 48) Try.underlying25 (by kernel_rfl) l.length (by omega) (by omega)
  have hlen : (l.length : Int) ≤ 1048576 := by omega
  go_enter Try.func8, Try.ntmps8
  go_wp2_with fail
  have hrow := RowF.made w 37 #[.int .i64 0, .int .i64 0, .int .i64 0, .slice none 0 0] (l.length * 4)
  have hbel := blw_alloc (Below.refl w.heap.size w) (.cells (madeCells #[.int .i64 0, .int .i64 0, .int .i64 0, .slice none 0 0] (l.length * 4)) 37)
  have hsz0 : w.heap.size < (w.alloc (.cells (madeCells #[.int .i64 0, .int .i64 0, .int .i64 0, .slice none 0 0] (l.length * 4)) 37)).heap.size := by simp
  clear hmk
  go_loopw [4] (fun i wr => ∃ (k : Nat) (f : Nat → Value) (l' : List Rec), k ≤ l.length ∧ i = .int .i64 k ∧ Below w.heap.size w wr ∧ RowF wr w.heap.size 37 (l.length * 4) f ∧ Hid (l'.length = k ∧ l'.map dat = (l.take k).map dat ∧ Fill encRec 4 l' k f ∧ EvO wr w.heap.size wr.heap.size l')) (fun i _ => l.length - (intOf i).toNat)
  case atStart => exact ⟨0, _, [], Nat.zero_le _, rfl, hbel, hrow, rfl, rfl, Fill.zero, ⟨fun r hr => by simp at hr, List.Pairwise.nil⟩⟩
  case round =>
    clear hbel hrow hsz0
    obtain ⟨k, f, l', hk, rfl, hb, hr, hh⟩ := hrel
    by_cases hlt : k < l.length
    · obtain ⟨b, off, rfl, hbb, hc0, hc1, hc2, hc3⟩ := (hl.below hb).at_Record hlt
      have hel := ((he l[k] (List.getElem_mem hlt)).below hb).more hb.size
      have hml : l[k].evs.length ≤ 1048576 := by have := totR_mem (List.getElem_mem hlt); omega
      have hm : k * 4 + 4 ≤ l.length * 4 := by omega
      have hgl := hr.lt
      go_wp2_with fail
      refine (toRecord_any _ _ _ _ _ l[k].evs _ hel hml).mono ?_
      rintro e w1 ⟨g1, hg1, rfl, ho1, hb1⟩
      have hr1 := hr.below hb1 hgl
      have hw1 : Below w.heap.size w w1 := blw hb hb1
      have hs0 := hr1.cell (i := k * 4) (by omega)
      have hz0 := hr1.frozen (k * 4)
      have hs1 := hr1.cell (i := k * 4 + 1) (by omega)
      have hz1 := hr1.frozen (k * 4 + 1)
      have hs2 := hr1.cell (i := k * 4 + 2) (by omega)
      have hz2 := hr1.frozen (k * 4 + 2)
      have hs3 := hr1.cell (i := k * 4 + 3) (by omega)
      have hz3 := hr1.frozen (k * 4 + 3)
      have Ho := Lib.hid ho1
      have hgs := ho1.lt
      clear ho1
      go_wp2_with fail
      go_roundw
      case rel =>
        obtain ⟨e1, e2, e3, e4⟩ := hh.out
        have hne : ∀ b' : Nat, w.heap.size < b' → b' ≠ w.heap.size := fun b' h => by omega
        refine ⟨k + 1, _, l' ++ [⟨l[k].id, l[k].series, l[k].made, some ⟨g1, 0, none⟩, l[k].evs.length, l[k].evs⟩], by omega, by go_num, ((((hw1.setCell (Nat.le_refl _) _).setCell (Nat.le_refl _) _).setCell (Nat.le_refl _) _).setCell (Nat.le_refl _) _), ((((hr1.put (k * 4) _).put (k * 4 + 1) _).put (k * 4 + 2) _).put (k * 4 + 3) _), by simp [e1], ?_, ?_, ?_⟩
        · rw [List.take_succ_eq_append_getElem hlt, List.map_append, List.map_append, e2]; rfl
        · intro i hi hik j u hu
          rcases Nat.lt_succ_iff_lt_or_eq.1 hik with h1 | rfl
          · rw [List.getElem_append_left (by omega)] at hu
            have hj : j < 4 := by rw [← encRec_len (l'[i]'(by omega))]; exact (List.getElem?_eq_some_iff.1 hu).1
            rw [upd_other (by omega), upd_other (by omega), upd_other (by omega), upd_other (by omega)]
            exact e3 i (by omega) h1 j u hu
          · rw [List.getElem_append_right (by omega)] at hu
            have hj : j < 4 := by have hq := (List.getElem?_eq_some_iff.1 hu).1; simpa [encRec] using hq
            simp only [e1, Nat.sub_self, List.getElem_cons_zero] at hu
            match j, hj, hu with
            | 0, _, hu => simp [encRec] at hu; subst hu; simp [upd]
            | 1, _, hu => simp [encRec] at hu; subst hu; simp [upd]
            | 2, _, hu => simp [encRec] at hu; subst hu; simp [upd]
            | 3, _, hu => simp [encRec] at hu; subst hu; simp [upd]
        · have hlast := hb1.size
          refine ⟨fun r hr => ?_, ?_⟩
          · rcases List.mem_append.1 hr with h | h
            · obtain ⟨b', h1, h2, h4, h3⟩ := e4.own r h
              have h5 := h3.below hb1 h3.lt
              exact ⟨b', h1, h2, by simp; omega, ((((h5.far (by simp; omega) _).far (by simp; omega) _).far (by simp; omega) _).far (by simp; omega) _)⟩
            · obtain rfl := List.mem_singleton.1 h
              exact ⟨g1, rfl, by omega, by simp; omega, ((((Ho.out.far (by simp; omega) _).far (by simp; omega) _).far (by simp; omega) _).far (by simp; omega) _)⟩
          · rw [List.pairwise_append]
            refine ⟨e4.apart, List.pairwise_singleton _ _, fun a ha b' hb' => ?_⟩
            obtain rfl := List.mem_singleton.1 hb'
            obtain ⟨b2, h1, h2, h4, h3⟩ := e4.own a ha
            rw [h1]
            intro hc
            simp at hc <;> omega
      case measure => simp [intOf]; omega
    · have hkk : k = l.length := by omega
      subst hkk
      go_wp2_with fail
      go_ret
      obtain ⟨e1, e2, e3, e4⟩ := hh.out
      rw [List.take_length] at e2
      exact ⟨w.heap.size, l', Nat.le_refl _, e1, e2, rfl, Fill.own (by rw [e1]; exact e3) (by rw [e1]; exact hr), e4, hb⟩

set_option maxHeartbeats 2000000 in
theorem eqRecordS_any (A A' : Option Addr) (c c' : Nat) (l l' : List Rec) (w : World) (hl : Ls w w.heap.size encRec 4 A l) (hl' : Ls w w.heap.size encRec 4 A' l') (he : EvR w l) (he' : EvR w l') (hd : l'.map dat = l.map dat) (hn : l.length + totR l ≤ 1048576) :
    Calls Try.prog 10 #[.slice A l.length c, .slice A' l'.length c'] w fun e w' => e = .returned (.bool true) ∧ Below w.heap.size w w' := by
  have hlen : (l.length : Int) ≤ 1048576 := by omega
  have hll : l'.length = l.length := by have := congrArg List.length hd; simpa using this
  rw [hll]
  have Hll := Lib.hid hll
  have Hd := Lib.hid hd
  clear hll hd
  go_enter Try.func10, Try.ntmps10
  go_wp2_with fail
  go_loopw [5] (fun i wr => ∃ (k : Nat), k ≤ l.length ∧ i = .int .i64 k ∧ Below w.heap.size w wr) (fun i _ => l.length - (intOf i).toNat)
  case atStart => exact ⟨0, Nat.zero_le _, rfl, Below.refl _ _⟩
  case round =>
    obtain ⟨k, hk, rfl, hb⟩ := hrel
    by_cases hlt : k < l.length
    · obtain ⟨b, off, rfl, hbb, hc0, hc1, hc2, hc3⟩ := (hl.below hb).at_Record hlt
      have hlt' : k < l'.length := by rw [Hll.out]; exact hlt
      obtain ⟨b', off', rfl, hbb', hd0, hd1, hd2, hd3⟩ := (hl'.below hb).at_Record hlt'
      have hdk : dat l'[k] = dat l[k] := by
        have h1 : (l'.map dat)[k]? = (l.map dat)[k]? := by rw [Hd.out]
        simpa [hlt, hlt'] using h1
      have h1 : l'[k].id = l[k].id := congrArg (·.1) hdk
      have h2 : l'[k].series = l[k].series := congrArg (·.2.1) hdk
      have h3 : l'[k].made = l[k].made := congrArg (·.2.2.1) hdk
      have h4 : l'[k].evs = l[k].evs := congrArg (·.2.2.2) hdk
      rw [h1] at hd0
      rw [h2] at hd1
      rw [h3] at hd2
      rw [h4] at hd3
      have hel := ((he l[k] (List.getElem_mem hlt)).below hb).more hb.size
      have hel' := ((he' l'[k] (List.getElem_mem hlt')).below hb).more hb.size
      rw [h4] at hel'
      clear h1 h2 h3 h4 hdk
      have hml : l[k].evs.length ≤ 9223372036854775807 := by have := totR_mem (List.getElem_mem hlt); omega
      have hsz := hb.size
      have hq : b < wr.heap.size := by omega
      have hq' : b' < wr.heap.size := by omega
      have hi0 : (0 : Int) ≤ (k : Int) := by omega
      have hi1 : (k : Int) < (l.length : Int) := by omega
      go_wp2_with fail
      refine wp_region_calm (by kernel_rfl) (by kernel_rfl) ?_
      repeat (go_big_quiet_step ((go_at_call 16; exact Calls.calm (eqRecord_any _ _ _ _ _ _ _ l[k].evs _ ((hel.below (Aft.h _)).more (Aft.h _).size) ((hel'.below (Aft.h _)).more (Aft.h _).size) hml))))
      refine wpQuiet_nil ?_
      rintro _ ⟨⟨w1, hb1⟩, rfl⟩
      go_wp2_with fail
      go_roundw
      case rel => exact ⟨k + 1, by omega, by go_num, blw hb hb1⟩
      case measure => simp [intOf]; omega
    · have hkk : k = l.length := by omega
      subst hkk
      go_wp2_with fail
      go_ret
      exact ⟨rfl, hb⟩

theorem Row1.kept {w w' : World} {t : TypeId} {sz n b : Nat} (h : Row1 w t sz (some ⟨b, 0, none⟩) n) (hb : w'.heap[b]? = w.heap[b]?) : Row1 w' t sz (some ⟨b, 0, none⟩) n := fun hn => by
  obtain ⟨g, f, m, e, h1, h2⟩ := h hn
  obtain ⟨cs, k1, k2⟩ := h1
  simp at e
  subst e
  exact ⟨b, f, m, rfl, ⟨cs, hb.trans k1, k2⟩, h2⟩
theorem Row1.far {w : World} {t : TypeId} {sz n b : Nat} (h : Row1 w t sz (some ⟨b, 0, none⟩) n) {p : Addr} (hp : b ≠ p.block) (u : Value) : Row1 (w.setCell p u) t sz (some ⟨b, 0, none⟩) n := h.kept (Below.heap_setCell w p u b hp)

def blkR (r : Rec) : Nat := r.A.elim 0 (·.block)
/-- A row of records; the events of the records from k on lie each in a row that may be written. -/
def RecRow (w : World) (g : Nat) (l : List Rec) (k : Nat) : Prop := ∃ f m, RowF w g 37 m f ∧ l.length * 4 ≤ m ∧
  ∀ i (hi : i < l.length), k ≤ i → (∃ c, f (i * 4 + 3) = .slice (some ⟨blkR l[i], 0, none⟩) l[i].evs.length c) ∧ Row1 w 41 2 (some ⟨blkR l[i], 0, none⟩) l[i].evs.length
theorem recRow_of {w : World} {g hi : Nat} {l : List Rec} (ho : Own w g 37 encRec 4 l) (he : EvO w g hi l) : RecRow w g l 0 := by
  obtain ⟨f, h1, h2⟩ := ho
  refine ⟨f, _, h1, Nat.le_refl _, fun i hi' _ => ?_⟩
  obtain ⟨b, e1, e2, e3, e4⟩ := he.own l[i] (List.getElem_mem hi')
  have hb : blkR l[i] = b := by unfold blkR; rw [e1]; rfl
  rw [hb]
  have e5 := h2 i hi' 3 _ rfl
  rw [e1] at e5
  exact ⟨⟨_, e5⟩, e4.row1⟩
theorem blkR_bd {w : World} {g hi : Nat} {l : List Rec} (he : EvO w g hi l) : ∀ i (h : i < l.length), g < blkR l[i] ∧ blkR l[i] < hi := fun i h => by
  obtain ⟨b, e1, e2, e3, e4⟩ := he.own l[i] (List.getElem_mem h)
  have hb : blkR l[i] = b := by unfold blkR; rw [e1]; rfl
  rw [hb]; exact ⟨e2, e3⟩
theorem blkR_ne {w : World} {g hi : Nat} {l : List Rec} (he : EvO w g hi l) : ∀ i j (hi : i < l.length) (hj : j < l.length), i < j → blkR l[i] ≠ blkR l[j] := fun i j hi hj hij hc => by
  obtain ⟨b, e1, _⟩ := he.own l[i] (List.getElem_mem hi)
  obtain ⟨b', e1', _⟩ := he.own l[j] (List.getElem_mem hj)
  have h := List.pairwise_iff_getElem.1 he.apart i j hi hj hij
  have hb : blkR l[i] = b := by unfold blkR; rw [e1]; rfl
  have hb' : blkR l[j] = b' := by unfold blkR; rw [e1']; rfl
  rw [hb, hb'] at hc
  subst hc
  exact h (e1.trans e1'.symm)

/-- What markRecordS hands back: a mark that is positive; only blocks from g up to hi were written. -/
def MarkRs (w : World) (g hi : Nat) (e : Ending) (w' : World) : Prop :=
  ∃ k1 : Int, e = .returned (.int .i64 k1) ∧ 0 ≤ k1 ∧ Wr (fun q => g ≤ q ∧ q < hi) w w'

set_option maxHeartbeats 1000000 in
theorem markRecordS_any (g hi c : Nat) (l : List Rec) (k0 : Int) (w : World) (ho : Own w g 37 encRec 4 l) (he : EvO w g hi l) (hgh : g < hi) (hhi : hi ≤ w.heap.size) (hn : l.length + totR l ≤ 1048576) (h0 : 0 ≤ k0) (h1 : k0 ≤ 1048576) :
    Calls Try.prog 22 #[.slice (some ⟨g, 0, none⟩) l.length c, .int .i64 k0] w (MarkRs w g hi) := by
  have hlen : (l.length : Int) ≤ 1048576 := by omega
  have hr0 := Lib.hid (recRow_of ho he)
  have hbd := Lib.hid (blkR_bd he)
  have hne := Lib.hid (blkR_ne he)
  clear ho he
  go_enter Try.func22, Try.ntmps22
  go_wp2_with fail
  go_loopw [1, 5] (fun kk i wr => ∃ (k : Nat) (z : Int), k ≤ l.length ∧ i = .int .i64 k ∧ kk = .int .i64 z ∧ 0 ≤ z ∧ z ≤ k0 + 3 * (k : Int) + 2 * (totR (l.take k) : Int) ∧ Wr (fun q => g ≤ q ∧ q < hi) w wr ∧ Hid (RecRow wr g l k)) (fun _ i _ => l.length - (intOf i).toNat)
  case atStart => exact ⟨0, k0, Nat.zero_le _, rfl, rfl, h0, by simp [totR], Wr.refl _ _, hr0⟩
  case round =>
    clear hr0
    obtain ⟨k, z, hk, rfl, rfl, hz0, hz1, hw, hrow⟩ := hrel
    by_cases hlt : k < l.length
    · obtain ⟨f, m, hr, hm, hrest⟩ := hrow.out
      obtain ⟨⟨c3, e3⟩, hr3⟩ := hrest k hlt (Nat.le_refl _)
      have Hrest := Lib.hid hrest
      clear hrow hrest
      have hts := totR_snoc hlt
      have htt := totR_take l k
      have htt2 := totR_take l (k + 1)
      have hq : l[k].evs.length ≤ 1048576 := by omega
      have hzb : z ≤ 1099511627776 - 3 := by omega
      have hzn : z + 1 + 1 + 1 + 2 * (l[k].evs.length : Int) ≤ k0 + 3 * ((k + 1 : Nat) : Int) + 2 * (totR (l.take (k + 1)) : Int) := by omega
      have hbk := hbd.out k hlt
      have hnk := hne.out
      have Hnk := Lib.hid hnk
      clear hnk hts htt htt2
      have hm2 : k * 4 + 4 ≤ l.length * 4 := by omega
      have hkn : (k : Int) < (l.length : Int) := by omega
      have hs0 := hr.cell (i := k * 4) (by omega)
      have hf0 := hr.frozen (k * 4)
      have hs1 := hr.cell (i := k * 4 + 1) (by omega)
      have hf1 := hr.frozen (k * 4 + 1)
      have hs2 := hr.cell (i := k * 4 + 2) (by omega)
      have hf2 := hr.frozen (k * 4 + 2)
      have hs3 := hr.cell (i := k * 4 + 3) (by omega)
      rw [e3] at hs3
      have E3 := Lib.hid e3
      clear e3
      generalize hB : blkR l[k] = B at *
      have HB := Lib.hid hB
      clear hB
      go_wp2_with fail
      refine (markEventS_any (some ⟨B, 0, none⟩) _ l[k].evs.length _ _ (((hr3.far (by simp <;> omega) _).far (by simp <;> omega) _).far (by simp <;> omega) _) hq (by omega) (by omega)).mono ?_
      rintro e w1 ⟨rfl, hw1, _⟩
      go_wp2_with fail
      go_roundw
      case rel =>
        have hr1 := ((hr.put (k * 4) (.int .i64 z)).put (k * 4 + 1) (.int .i64 (z + 1))).put (k * 4 + 2) (.int .i64 (z + 1 + 1))
        have hW := (((hw.setCell (p := ⟨g, k * 4, none⟩) (.inl ⟨Nat.le_refl _, hgh⟩) (.int .i64 z)).setCell (p := ⟨g, k * 4 + 1, none⟩) (.inl ⟨Nat.le_refl _, hgh⟩) (.int .i64 (z + 1))).setCell (p := ⟨g, k * 4 + 2, none⟩) (.inl ⟨Nat.le_refl _, hgh⟩) (.int .i64 (z + 1 + 1))).trans (hw1.mono (fun q hq => by obtain ⟨o, ho⟩ := hq; simp at ho <;> omega))
        refine ⟨k + 1, z + 1 + 1 + 1 + 2 * (l[k].evs.length : Int), by omega, by go_num, by go_num, by omega, hzn, hW, ?_⟩
        refine ⟨_, m, hr1.wr hw1 (fun hS => by obtain ⟨o, ho⟩ := hS; simp at ho <;> omega), hm, fun i hi' hki => ?_⟩
        obtain ⟨⟨c4, e4⟩, hr4⟩ := Hrest.out i hi' (by omega)
        have hbi := hbd.out i hi'
        have hnn := Hnk.out k i hlt hi' (by omega)
        rw [HB.out] at hnn
        refine ⟨⟨c4, by rw [upd_other (by omega), upd_other (by omega), upd_other (by omega)]; exact e4⟩, ?_⟩
        have h5 : blkR l[i] ≠ g := by omega
        refine (((hr4.far (p := ⟨g, k * 4, none⟩) h5 (.int .i64 z)).far (p := ⟨g, k * 4 + 1, none⟩) h5 (.int .i64 (z + 1))).far (p := ⟨g, k * 4 + 2, none⟩) h5 (.int .i64 (z + 1 + 1))).kept ?_
        have hsz1 := hw.size
        exact hw1.block _ (by simp; omega) (fun hS => by obtain ⟨o, ho⟩ := hS; simp at ho <;> omega)
      case measure => simp [intOf]; omega
    · have hkk : k = l.length := by omega
      subst hkk
      go_wp2_with fail
      go_ret
      exact ⟨z, rfl, hz0, hw⟩

end Go.Proofs.Ytoohbpaheeckpaa
