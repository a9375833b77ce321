/- Plain words: the record that a text tells; each side's reading of a record's own text gives the record. -/
import Derived.Test.YtopfcfedcmpamaaDoorW2t
namespace Go.Proofs.YtopfcfedcmpamaaDoor
set_option linter.unusedVariables false
set_option linter.unusedSimpArgs false
open Go.RowKit

/-- a number of at most 7 decimal digits, -1 for other texts -/
def digV (s : ByteArray) : Int := if decide (1 ≤ s.size) && decide (s.size ≤ 7) && s.data.toList.all digB then (valL s.data.toList : Int) else -1
def cF (b : UInt8) (s : ByteArray) : ByteArray := ⟨(Lib.cut s.data.toList [b]).1.toArray⟩
def cS (b : UInt8) (s : ByteArray) : ByteArray := ⟨(Lib.cut s.data.toList [b]).2.1.toArray⟩
def cB (b : UInt8) (s : ByteArray) : Bool := (Lib.cut s.data.toList [b]).2.2
theorem cut_no {b : UInt8} {l : List UInt8} (h : b ∉ l) : Lib.cut l [b] = (l, [], false) := by
  have hi : Lib.index l [b] = -1 := by rw [index_one, if_neg (by simpa using h)]
  rw [Lib.cut, hi, if_neg (by omega)]
theorem idxOf_hit {b : UInt8} {p : List UInt8} (r : List UInt8) (h : b ∉ p) : (p ++ b :: r).idxOf b = p.length := by
  induction p with
  | nil => simp
  | cons c p ih =>
    have h1 : ¬ c = b := fun e => h (by simp [e])
    have hcb : (c == b) = false := by simpa using h1
    rw [List.cons_append, List.idxOf_cons, hcb]
    simp only [cond_false, List.length_cons]
    rw [ih (fun e => h (by simp [e]))]
theorem cut_yes {b : UInt8} {p : List UInt8} (r : List UInt8) (h : b ∉ p) : Lib.cut (p ++ b :: r) [b] = (p, r, true) := by
  have hi : Lib.index (p ++ b :: r) [b] = (p.length : Int) := by rw [index_one, if_pos (by simp), idxOf_hit r h]
  rw [Lib.cut, hi, if_pos (by omega)]
  simp only [Int.toNat_natCast, List.length_singleton]
  rw [List.take_left', List.drop_append]
  · simp
  · rfl
theorem cF_size (b : UInt8) (s : ByteArray) : (cF b s).size ≤ s.size := by
  unfold cF
  show (Array.size _) ≤ _
  rw [List.size_toArray]
  by_cases h : b ∈ s.data.toList
  · have hs := split_idxOf h
    rw [hs, cut_yes _ take_idxOf_notin]
    have : (s.data.toList.take (s.data.toList.idxOf b)).length ≤ s.data.toList.length := by rw [List.length_take]; omega
    rw [ba_len] at this
    exact this
  · rw [cut_no h, ba_len]; exact Nat.le_refl _
theorem cS_size (b : UInt8) (s : ByteArray) : (cS b s).size ≤ s.size := by
  unfold cS
  show (Array.size _) ≤ _
  rw [List.size_toArray]
  by_cases h : b ∈ s.data.toList
  · have hs := split_idxOf h
    rw [hs, cut_yes _ take_idxOf_notin]
    have : (s.data.toList.drop (s.data.toList.idxOf b + 1)).length ≤ s.data.toList.length := by rw [List.length_drop]; omega
    rw [ba_len] at this
    exact this
  · rw [cut_no h]; exact Nat.zero_le _

/-! the texts of numbers -/
theorem itoa_dig {n : Int} (h : 0 ≤ n) : (Lib.itoa n).all digB = true := by
  unfold Lib.itoa
  rw [if_neg (by omega)]
  exact dec_all _
theorem itoa_notin {n : Int} (h : 0 ≤ n) {b : UInt8} (hb : digB b = false) : b ∉ Lib.itoa n := fun hc => by
  have h1 := List.all_eq_true.1 (itoa_dig h) b hc
  rw [hb] at h1
  cases h1
theorem digV_num {n : Int} (h0 : 0 ≤ n) (h1 : n ≤ 999999) : digV (numB n) = n := by
  have h2 : Lib.itoa n = Lib.decDigits n.toNat := by unfold Lib.itoa; rw [if_neg (by omega)]
  have h3 := dec_len_pos n.toNat
  have h4 := dec_len6 (u := n.toNat) (by omega)
  have h5 : (numB n).size = (Lib.decDigits n.toNat).length := by rw [numB_size, h2]
  unfold digV
  rw [if_pos (by rw [numB_data, itoa_dig h0, h5]; simp; omega), numB_data, h2, dec_val]
  omega
theorem readI_num {n : Int} (h0 : 0 ≤ n) (h1 : n ≤ 999999) : readI (Lib.itoa n) = n := (readB_itoa rfl (by omega) h1).2

/-! the text of a record, as bytes -/
def hdL (id series made : Int) : List UInt8 := Lib.itoa id ++ 115 :: (Lib.itoa series ++ 64 :: Lib.itoa made)
def wdL (e : Ev) : List UInt8 := Lib.itoa e.1 ++ 64 :: Lib.itoa e.2
theorem evT_data (e : Ev) : (evT e).data.toList = 32 :: wdL e := by
  unfold evT wdL
  simp [ByteArray.data_append, numB_data]
theorem recTx_data (id series made : Int) (l : List Ev) : (recTx id series made l).data.toList = hdL id series made ++ l.flatMap fun e => 32 :: wdL e := by
  have h : ∀ (m : List Ev) (t : ByteArray), (m.foldl (fun s e => s ++ evT e) t).data.toList = t.data.toList ++ m.flatMap fun e => 32 :: wdL e := by
    intro m
    induction m with
    | nil => intro t; simp
    | cons e m ih =>
      intro t
      rw [List.foldl_cons, ih, ByteArray.data_append, Array.toList_append, evT_data, List.flatMap_cons, List.append_assoc]
  unfold recTx recTK
  rw [List.take_length, h]
  congr 1
  unfold recT0 hdL
  simp [ByteArray.data_append, numB_data]
theorem parts_flat {α : Type} {b : UInt8} {f : α → List UInt8} : ∀ (l : List α) {p : List UInt8}, b ∉ p → (∀ e ∈ l, b ∉ f e) → partsL b (p ++ l.flatMap fun e => b :: f e) = p :: l.map f
  | [], p, hp, _ => by simp [partsL_none hp]
  | e :: l, p, hp, hl => by
    rw [List.flatMap_cons, List.cons_append, partsL_hit _ hp, parts_flat l (hl e (by simp)) (fun x hx => hl x (by simp [hx])), List.map_cons]

theorem sp_hd {id series made : Int} (h1 : 0 ≤ id) (h2 : 0 ≤ series) (h3 : 0 ≤ made) : (32 : UInt8) ∉ hdL id series made := by
  unfold hdL
  simp only [List.mem_append, List.mem_cons, not_or]
  exact ⟨itoa_notin h1 rfl, by decide, itoa_notin h2 rfl, by decide, itoa_notin h3 rfl⟩
theorem sp_wd {e : Ev} (h1 : 0 ≤ e.1) (h2 : 0 ≤ e.2) : (32 : UInt8) ∉ wdL e := by
  unfold wdL
  simp only [List.mem_append, List.mem_cons, not_or]
  exact ⟨itoa_notin h1 rfl, by decide, itoa_notin h2 rfl⟩
theorem evs_mem {id series made : Int} {l : List Ev} (h : recB id series made l = true) : ∀ e ∈ l, 1 ≤ e.1 ∧ e.1 ≤ 9 ∧ 0 ≤ e.2 ∧ e.2 ≤ 20000 := fun e he => by
  obtain ⟨i, hi, rfl⟩ := List.mem_iff_getElem.1 he
  exact (recB_bd h).2.2.2.2.2.2.2 i hi

/-! the program's reading -/
def pId (s : ByteArray) : Int := digV (cF 115 (cF 32 s))
def pSer (s : ByteArray) : Int := digV (cF 64 (cS 115 (cF 32 s)))
def pMade (s : ByteArray) : Int := digV (cS 64 (cS 115 (cF 32 s)))
def evOf (w : ByteArray) : Ev := (digV (cF 64 w), digV (cS 64 w))
def pEvs (s : ByteArray) : List Ev := if cB 32 s then (partsA 32 (cS 32 s)).map evOf else []
theorem cF_mk {b : UInt8} {s : ByteArray} {p q : List UInt8} {x : Bool} (h : Lib.cut s.data.toList [b] = (p, q, x)) : cF b s = ⟨p.toArray⟩ ∧ cS b s = ⟨q.toArray⟩ ∧ cB b s = x := by
  unfold cF cS cB; rw [h]; exact ⟨rfl, rfl, rfl⟩
theorem evOf_wd {e : Ev} (h1 : 0 ≤ e.1) (h2 : e.1 ≤ 999999) (h3 : 0 ≤ e.2) (h4 : e.2 ≤ 999999) : evOf ⟨(wdL e).toArray⟩ = e := by
  have hc := cF_mk (s := ⟨(wdL e).toArray⟩) (cut_yes (b := 64) (p := Lib.itoa e.1) (Lib.itoa e.2) (itoa_notin h1 rfl))
  unfold evOf
  rw [hc.1, hc.2.1]
  show (digV (numB e.1), digV (numB e.2)) = e
  rw [digV_num h1 h2, digV_num h3 h4]
theorem p_rec {id series made : Int} {l : List Ev} (h : recB id series made l = true) :
    pId (recTx id series made l) = id ∧ pSer (recTx id series made l) = series ∧ pMade (recTx id series made l) = made ∧ pEvs (recTx id series made l) = l := by
  obtain ⟨r1, r2, r3, r4, r5, r6, r7, r8⟩ := recB_bd h
  have hm := evs_mem h
  have hd := recTx_data id series made l
  have h32 := sp_hd (id := id) (series := series) (made := made) (by omega) (by omega) r5
  have hcut : ∃ q x, Lib.cut (recTx id series made l).data.toList [32] = (hdL id series made, q, x) ∧ (if x then (partsL 32 q) else []) = l.map wdL := by
    rw [hd]
    cases l with
    | nil => exact ⟨[], false, by rw [List.flatMap_nil, List.append_nil, cut_no h32], rfl⟩
    | cons e l =>
      refine ⟨wdL e ++ l.flatMap fun e => 32 :: wdL e, true, by rw [List.flatMap_cons, List.cons_append, cut_yes _ h32], ?_⟩
      rw [if_pos rfl, parts_flat l (sp_wd (by have := hm e (by simp); omega) (by have := hm e (by simp); omega)) (fun x hx => by have := hm x (by simp [hx]); exact sp_wd (by omega) (by omega))]
      rfl
  obtain ⟨q, x, hc, hq⟩ := hcut
  obtain ⟨c1, c2, c3⟩ := cF_mk hc
  have hc2 := cF_mk (s := ⟨(hdL id series made).toArray⟩) (cut_yes (b := 115) (p := Lib.itoa id) (Lib.itoa series ++ 64 :: Lib.itoa made) (itoa_notin (by omega) rfl))
  have hc3 := cF_mk (s := ⟨(Lib.itoa series ++ 64 :: Lib.itoa made).toArray⟩) (cut_yes (b := 64) (p := Lib.itoa series) (Lib.itoa made) (itoa_notin (by omega) rfl))
  refine ⟨?_, ?_, ?_, ?_⟩
  · unfold pId
    rw [c1, hc2.1]
    exact digV_num (by omega) (by omega)
  · unfold pSer
    rw [c1, hc2.2.1, hc3.1]
    exact digV_num (by omega) (by omega)
  · unfold pMade
    rw [c1, hc2.2.1, hc3.2.1]
    exact digV_num (by omega) (by omega)
  · unfold pEvs
    rw [c3, c2]
    cases x with
    | false =>
      simp only [Bool.false_eq_true, if_false] at hq ⊢
      have := congrArg List.length hq
      simp at this
      rw [List.length_eq_zero_iff.1 this.symm]
    | true =>
      simp only [if_true] at hq ⊢
      unfold partsA
      show ((partsL 32 q).map fun l => (⟨l.toArray⟩ : ByteArray)).map evOf = l
      rw [hq, List.map_map, List.map_map]
      conv => rhs; rw [← List.map_id l]
      refine List.map_congr_left fun e he => ?_
      have := hm e he
      exact evOf_wd (by omega) (by omega) (by omega) (by omega)

/-! the reference's reading -/
def hdW (s : ByteArray) : List ByteArray := partsA 64 ((partsA 32 s).headD ⟨#[]⟩)
def nmW (s : ByteArray) : List ByteArray := partsA 115 ((hdW s).headD ⟨#[]⟩)
def twoB (w : ByteArray) : Bool := decide ((partsA 64 w).length = 2)
def rdI (s : ByteArray) : Int := readI s.data.toList
def evR (w : ByteArray) : Ev := (rdI ((partsA 64 w).getD 0 ⟨#[]⟩), rdI ((partsA 64 w).getD 1 ⟨#[]⟩))
def qId (s : ByteArray) : Int := rdI ((nmW s).getD 0 ⟨#[]⟩)
def qSer (s : ByteArray) : Int := rdI ((nmW s).getD 1 ⟨#[]⟩)
def qMade (s : ByteArray) : Int := rdI ((hdW s).getD 1 ⟨#[]⟩)
def qEvs (s : ByteArray) : List Ev := ((partsA 32 s).drop 1).map evR
def shpB (s : ByteArray) : Bool := decide (s.size ≤ 80) && (decide ((hdW s).length = 2) && decide ((nmW s).length = 2)) && ((partsA 32 s).drop 1).all twoB
theorem parts_mk (b : UInt8) {s : ByteArray} {p : List (List UInt8)} (h : partsL b s.data.toList = p) : partsA b s = p.map fun l => ⟨l.toArray⟩ := by unfold partsA; rw [h]
theorem parts_two {b : UInt8} {p q : List UInt8} (hp : b ∉ p) (hq : b ∉ q) : partsA b ⟨(p ++ b :: q).toArray⟩ = [⟨p.toArray⟩, ⟨q.toArray⟩] := by
  rw [parts_mk b (p := [p, q]) (by show partsL b (p ++ b :: q) = _; rw [partsL_hit _ hp, partsL_none hq])]
  rfl
theorem notin_of {n : Int} (h : 0 ≤ n) : (64 : UInt8) ∉ Lib.itoa n ∧ (115 : UInt8) ∉ Lib.itoa n := ⟨itoa_notin h rfl, itoa_notin h rfl⟩
theorem q_rec {id series made : Int} {l : List Ev} (h : recB id series made l = true) :
    shpB (recTx id series made l) = true ∧ qId (recTx id series made l) = id ∧ qSer (recTx id series made l) = series ∧ qMade (recTx id series made l) = made ∧ qEvs (recTx id series made l) = l := by
  obtain ⟨r1, r2, r3, r4, r5, r6, r7, r8⟩ := recB_bd h
  have hm := evs_mem h
  have hd := recTx_data id series made l
  have hw : partsA 32 (recTx id series made l) = ⟨(hdL id series made).toArray⟩ :: l.map fun e => ⟨(wdL e).toArray⟩ := by
    rw [parts_mk 32 (p := hdL id series made :: l.map wdL) (by rw [hd]; exact parts_flat l (sp_hd (by omega) (by omega) r5) (fun e he => by have := hm e he; exact sp_wd (by omega) (by omega))), List.map_cons, List.map_map]
    rfl
  have hh : hdW (recTx id series made l) = [⟨(Lib.itoa id ++ 115 :: Lib.itoa series).toArray⟩, numB made] := by
    unfold hdW
    rw [hw]
    show partsA 64 ⟨(hdL id series made).toArray⟩ = _
    have e : hdL id series made = (Lib.itoa id ++ 115 :: Lib.itoa series) ++ 64 :: Lib.itoa made := by unfold hdL; simp
    rw [e, parts_two (by simp only [List.mem_append, List.mem_cons, not_or]; exact ⟨(notin_of (by omega)).1, by decide, (notin_of (by omega)).1⟩) (notin_of r5).1]
    rfl
  have hn : nmW (recTx id series made l) = [numB id, numB series] := by
    unfold nmW
    rw [hh]
    show partsA 115 ⟨(Lib.itoa id ++ 115 :: Lib.itoa series).toArray⟩ = _
    rw [parts_two (notin_of (by omega)).2 (notin_of (by omega)).2]
    rfl
  have hev : ∀ e ∈ l, partsA 64 ⟨(wdL e).toArray⟩ = [numB e.1, numB e.2] := fun e he => by
    have := hm e he
    unfold wdL
    rw [parts_two (notin_of (by omega)).1 (notin_of (by omega)).1]
    rfl
  have hR : ∀ n : Int, 0 ≤ n → n ≤ 999999 → rdI (numB n) = n := fun n h0 h1 => by unfold rdI; rw [numB_data]; exact readI_num h0 h1
  have hsz : (recTx id series made l).size ≤ 80 := by
    have h4 : ∀ n : Int, 0 ≤ n → n ≤ 99999 → (Lib.itoa n).length ≤ 5 := fun n h0 h1 => by
      unfold Lib.itoa; rw [if_neg (by omega)]; exact dec_len_le 4 _ (by omega)
    have h3 : ∀ n : Int, 0 ≤ n → n ≤ 999 → (Lib.itoa n).length ≤ 3 := fun n h0 h1 => by
      unfold Lib.itoa; rw [if_neg (by omega)]; exact dec_len_le 2 _ (by omega)
    have h2 : ∀ n : Int, 0 ≤ n → n ≤ 99 → (Lib.itoa n).length ≤ 2 := fun n h0 h1 => by
      unfold Lib.itoa; rw [if_neg (by omega)]; exact dec_len_le 1 _ (by omega)
    have h1 : ∀ n : Int, 0 ≤ n → n ≤ 9 → (Lib.itoa n).length ≤ 1 := fun n h0 h1 => by
      unfold Lib.itoa; rw [if_neg (by omega)]; exact dec_len_le 0 _ (by omega)
    have hf : ∀ m : List Ev, (∀ e ∈ m, 1 ≤ e.1 ∧ e.1 ≤ 9 ∧ 0 ≤ e.2 ∧ e.2 ≤ 20000) → (m.flatMap fun e => (32 : UInt8) :: wdL e).length ≤ 8 * m.length := by
      intro m
      induction m with
      | nil => intro _; simp
      | cons e m ih =>
        intro hx
        have a := ih (fun y hy => hx y (by simp [hy]))
        have b := hx e (by simp)
        have c := h1 e.1 (by omega) (by omega)
        have d := h4 e.2 (by omega) (by omega)
        rw [List.flatMap_cons, List.length_append, List.length_cons]
        unfold wdL at a ⊢
        simp only [List.length_append, List.length_cons] at a ⊢
        omega
    rw [← ba_len, hd, List.length_append]
    have a := hf l hm
    have b := h3 id (by omega) (by omega)
    have c := h2 series (by omega) (by omega)
    have d := h4 made (by omega) (by omega)
    unfold hdL
    simp only [List.length_append, List.length_cons]
    omega
  refine ⟨?_, ?_, ?_, ?_, ?_⟩
  · unfold shpB
    rw [hh, hn, hw]
    simp only [List.length_cons, List.length_nil, decide_true, Bool.and_self, Bool.and_true, List.drop_succ_cons, List.drop_zero, List.all_map, Bool.and_eq_true, decide_eq_true_eq]
    refine ⟨hsz, List.all_eq_true.2 fun e he => ?_⟩
    show twoB ⟨(wdL e).toArray⟩ = true
    unfold twoB
    rw [hev e he]
    rfl
  · unfold qId; rw [hn]; exact hR id (by omega) (by omega)
  · unfold qSer; rw [hn]; exact hR series (by omega) (by omega)
  · unfold qMade; rw [hh]; exact hR made (by omega) (by omega)
  · unfold qEvs
    rw [hw]
    simp only [List.drop_succ_cons, List.drop_zero, List.map_map]
    conv => rhs; rw [← List.map_id l]
    refine List.map_congr_left fun e he => ?_
    have := hm e he
    show evR ⟨(wdL e).toArray⟩ = e
    unfold evR
    rw [hev e he]
    show (rdI (numB e.1), rdI (numB e.2)) = e
    rw [hR e.1 (by omega) (by omega), hR e.2 (by omega) (by omega)]

/-- the text tells a record -/
def okR (s : ByteArray) : Bool := recB (pId s) (pSer s) (pMade s) (pEvs s) && decide (recTx (pId s) (pSer s) (pMade s) (pEvs s) = s)
def okQ (s : ByteArray) : Bool := shpB s && (recB (qId s) (qSer s) (qMade s) (qEvs s) && decide (recTx (qId s) (qSer s) (qMade s) (qEvs s) = s))
theorem ok_same {s : ByteArray} (h : okR s = true) : okQ s = true ∧ qId s = pId s ∧ qSer s = pSer s ∧ qMade s = pMade s ∧ qEvs s = pEvs s := by
  simp only [okR, Bool.and_eq_true, decide_eq_true_eq] at h
  obtain ⟨h1, h2⟩ := h
  have h3 := q_rec h1
  rw [h2] at h3
  obtain ⟨a, b, c, d, e⟩ := h3
  refine ⟨?_, b, c, d, e⟩
  unfold okQ
  rw [a, b, c, d, e, h1]
  simp [h2]
theorem ok_back {s : ByteArray} (h : okQ s = true) : okR s = true := by
  simp only [okQ, Bool.and_eq_true, decide_eq_true_eq] at h
  obtain ⟨_, h1, h2⟩ := h
  have h3 := p_rec h1
  rw [h2] at h3
  obtain ⟨b, c, d, e⟩ := h3
  unfold okR
  rw [b, c, d, e, h1]
  simp [h2]
theorem ok_eq (s : ByteArray) : okQ s = okR s := by
  cases h : okR s
  · cases h2 : okQ s
    · rfl
    · rw [ok_back h2] at h; cases h
  · exact (ok_same h).1
def keepE (b : Bool) (l : List Ev) : List Ev := if b then l else []
theorem keepE_le (s : ByteArray) : (keepE (okR s) (pEvs s)).length ≤ 6 := by
  unfold keepE
  split
  · next h =>
    simp only [okR, Bool.and_eq_true] at h
    exact (recB_bd h.1).2.2.2.2.2.2.1
  · simp

end Go.Proofs.YtopfcfedcmpamaaDoor
