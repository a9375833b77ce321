/- Contracts of slices.Insert at rows: one row is put in. -/
import Derived.Test.YtlhihdcdbclcbaaDoorSf
import Derived.Test.YtlhihdcdbclcbaaDoorVs
import Derived.Test.YtlhihdcdbclcbaaDoorRr
namespace Go.Proofs.YtlhihdcdbclcbaaDoor
set_option linter.unusedVariables false
set_option linter.unusedSimpArgs false
open Go.RowKit
attribute [local go_sem] Aft.cell

def InsS {α : Type} (w : World) (base : Nat) (t : TypeId) (en : α → List Value) (sz : Nat) (A : Option Addr) (l : List α) (i : Nat) (x : α) (e : Ending) (w' : World) : Prop :=
  ∃ A' c', e = .returned (.slice A' (l.length + 1) c') ∧ Vec w' base t en sz (.slice A' (l.length + 1) c') (l.take i ++ x :: l.drop i) ∧ Wr (blkOf A) w w'

/-- copy whose run is known, at a plain region's list and as a step of a region that draws. -/
theorem wpList_copyR {P : Program} (w : World) {ops : Array Oper} {rest : List Oper} {o : Oper} {a : Act} {Q : Exit → Act → World → Prop} (hgd : o.guard = none) (d s : Operand) (t t' : TypeId)
    (ho : o.op = .call { callee := .builtin .copy, args := #[d, s], argTypes := #[t, t'] }) (v u : Value) (hd : a.eval d = v) (hs : a.eval s = u) {v' : Value} {w' : World}
    (hr : (Builtin.copy_ #[t, t'] o.type #[v, u]).run P w = .ok v' w') (h : wpList P ops Q rest (a.put o.dst v') w') : wpList P ops Q (o :: rest) a w := by
  refine wpList_plain hgd fun _ hK => ?_
  unfold Oper.wp execOp
  simp only [ho, resolve, invoke, builtin, Sem.run_bind, Sem.run_pure, Result.andThen_ok, List.map_toArray, List.map_cons, List.map_nil, hd, hs, hr]
  exact hK _ _ h
theorem step_copyR {P : Program} {ops : Array Oper} {o : Oper} {a : Act} {w : World} {K : Act → World → Prop} {Q : Exit → Act → World → Prop} {E : Prop}
    (hg : o.guard = none) (d x : Operand) (dT sT : TypeId) (hop : o.op = Op.call { callee := Callee.builtin Builtin.copy, args := #[d, x], argTypes := #[dT, sT] })
    (v u : Value) (hd : a.eval d = v) (hx : a.eval x = u) {v' : Value} {w' : World} (hr : (Builtin.copy_ #[dT, sT] o.type #[v, u]).run P w = .ok v' w') (hK : K (a.put o.dst v') w') :
    if Region.wanted o (yielded ops a.tmps) = true then Oper.wp P o a w K Q else E := by
  have hw : Region.wanted o (yielded ops a.tmps) = true := by simp [Region.wanted, hg]
  rw [if_pos hw]
  unfold Oper.wp
  simp [execOp, hop, resolve, invoke, builtin, hd, hx, hr, Result.andThen]
  exact hK
theorem Wr.setCellsN {S : Nat → Prop} {g : Nat} {a : World} (hS : a.heap.size ≤ g) : ∀ (vs : List Value) (o : Nat) {b : World}, Wr S a b → Wr S a (b.setCells g o vs)
  | [], _, _, h => h
  | v :: r, o, _, h => Wr.setCellsN hS r (o + 1) (h.setCell (.inr hS) v)
theorem drew_setCells_ (b : Nat) : ∀ (vs : List Value) (o : Nat) (w : World), (w.setCells b o vs).drew = w.drew.setCells b o vs
  | [], _, _ => rfl
  | v :: r, o, w => by rw [World.setCells, World.setCells, drew_setCells_ b r]; rfl

set_option maxHeartbeats 1000000 in
set_option maxRecDepth 100000 in
theorem Insert_end_SRow (A : Option Addr) (c base gx : Nat) (l : List SRow) (x : SRow) (w : World) (hv : Vec w base 37 encSR 1 (.slice A l.length c) l) (hx : Ls w w.heap.size encSR 1 (some ⟨gx, 0, none⟩) [x]) (hm : l.length ≤ 1048576) (hbase : base ≤ w.heap.size) :
    Calls Tryd.prog 30 #[.slice A l.length c, .int .i64 (l.length : Int), .slice (some ⟨gx, 0, none⟩) 1 1] w (InsS w base 37 encSR 1 A l l.length x) := by
  have hF1 : l.length + [x].length ≤ maxLen := by unfold maxLen; simp; omega
  have hF2 : (l.length + [x].length) * 24 ≤ 140737488355328 := by simp; omega
  have hlen : (l.length : Int) ≤ 1048576 := by omega
  have hin : l.length ≤ c ∧ ∃ A0, A = A0 := ⟨by
    rcases hv.2 with ⟨h1, h2⟩ | ⟨g, cap, cur, h1, h2, h3, h4, _⟩
    · simp at h1; omega
    · simp at h1; omega, _, rfl⟩
  have hlc := hin.1
  cases A with
  | none =>
    go_enter Tryd.func30, Tryd.ntmps30
    go_wp2_with (at_builtin; refine wpList_app rfl (.tmp 23) (.tmp 24) 24 rfl 37 (.slice none 0 0) 1 24 Tryd.underlying24 (by kernel_rfl) rfl (by omega) encSR_len one_sr none c l rfl hv (some ⟨gx, 0, none⟩) 1 w.heap.size [x] rfl hx hF1 hF2 hbase ?_; intro A2 c2 w1 hv1 hw1)
    go_ret
    exact ⟨A2, c2, by simp, by simpa using hv1, hw1⟩
  | some a =>
    obtain ⟨ab, ao, asp⟩ := a
    have ha : ao = 0 ∧ asp = none := by
      rcases hv.2 with ⟨h1, h2⟩ | ⟨g, cap, cur, h1, h2, h3, h4, _⟩
      · simp at h1
      · simp at h1; exact ⟨h1.1.2.1, h1.1.2.2⟩
    obtain ⟨rfl, rfl⟩ := ha
    go_enter Tryd.func30, Tryd.ntmps30
    go_wp2_with (at_builtin; refine wpList_app rfl (.tmp 23) (.tmp 24) 24 rfl 37 (.slice none 0 0) 1 24 Tryd.underlying24 (by kernel_rfl) rfl (by omega) encSR_len one_sr (some ⟨ab, 0, none⟩) c l rfl hv (some ⟨gx, 0, none⟩) 1 w.heap.size [x] rfl hx hF1 hF2 hbase ?_; intro A2 c2 w1 hv1 hw1)
    all_goals
      go_ret
      exact ⟨A2, c2, by simp, by simpa using hv1, hw1⟩

set_option maxHeartbeats 1000000 in
set_option maxRecDepth 100000 in
theorem Insert_room_SRow (g c base gx i : Nat) (l : List SRow) (x : SRow) (w : World) (hv : Vec w base 37 encSR 1 (.slice (some ⟨g, 0, none⟩) l.length c) l) (hx : Blk w gx 37 (encSR x).toArray) (hgx : gx ≠ g) (hm : l.length ≤ 1048576) (hi : i < l.length) (hroom : l.length + 1 ≤ c) :
    Calls Tryd.prog 30 #[.slice (some ⟨g, 0, none⟩) l.length c, .int .i64 (i : Int), .slice (some ⟨gx, 0, none⟩) 1 1] w (InsS w base 37 encSR 1 (some ⟨g, 0, none⟩) l i x) := by
  obtain ⟨cur, hblk, hbase, hcap, hmax, hsize, htake⟩ := hv.row
  have hmax' : c ≤ 9223372036854775807 := by unfold maxLen at hmax; omega
  have hlen : (l.length : Int) ≤ 1048576 := by omega
  have hov : ∀ lb cb, (callFunc 47 #[.slice (some ⟨gx, 0, none⟩) 1 1, .slice (some ⟨g, i + 1, none⟩) lb cb]).run Tryd.prog w = .ok (.value (.bool false)) w := fun lb cb => by
    rw [run_callFunc_extern Tryd.func47 (by kernel_rfl) (by kernel_rfl) (by kernel_rfl) (e := Extern.SlicesOverlaps.overlaps #[24, 24] #[4]) (by kernel_rfl),
      Lib.run_overlaps_apart w 24 4 37 Tryd.underlying24 1 Tryd.sizeOf37 ⟨gx, 0, none⟩ ⟨g, i + 1, none⟩ 1 1 lb cb hgx 37 37 1 cur.size (by unfold Blk at hx; simp [World.shape?, hx]; rfl) (by unfold Blk at hblk; simp [World.shape?, hblk]) (by omega) (hx.frozen 0) (hx.frozen _)]
    rfl
  obtain ⟨D, hD⟩ : ∃ D, D = (l.drop i).flatMap encSR := ⟨_, rfl⟩
  have hdl : D.length = (l.length - i) * 1 := by rw [hD, flat_len encSR_len, List.length_drop]
  have hD1 : ∀ u ∈ D, u.oneCell' = true := by
    intro u hu
    rw [hD] at hu
    obtain ⟨a, _, ha⟩ := List.mem_flatMap.1 hu
    exact one_sr a u ha
  have hsz2 : (Tryd.prog.info? 37).map (·.size) = some 1 := by kernel_rfl
  have hcell : ∀ j v, D[j]? = some v → w.cell? ⟨g, i + j, none⟩ = some v := fun j v hj => by
    have hjl : j < (l.length - i) * 1 := by rw [← hdl]; exact (List.getElem?_eq_some_iff.1 hj).1
    rw [hblk.cell]
    have h7 : (cur.toList.take (l.length * 1))[i + j]? = (l.flatMap encSR)[i + j]? := by rw [htake]
    rw [List.getElem?_take, if_pos (by omega), Array.getElem?_toList] at h7
    rw [h7, ← hj, hD]
    conv => lhs; rw [← List.take_append_drop i l, List.flatMap_append]
    have hti : ((l.take i).flatMap encSR).length = i * 1 := by rw [flat_len encSR_len, List.length_take]; congr 1; omega
    rw [List.getElem?_append_right (by omega), hti]
    congr 1; omega
  have hbd : Blk w.drew g 37 cur := hblk
  have hcp1 : ∀ ty dc sc, (Builtin.copy_ #[24, 24] ty #[.slice (some ⟨g, i + 1, none⟩) (l.length + 1 - (i + 1)) dc, .slice (some ⟨g, i, none⟩) (l.length + 1 - i) sc]).run Tryd.prog w.drew = .ok (goInt (Nat.min (l.length + 1 - i) (l.length + 1 - (i + 1)))) (w.drew.setCells g (i + 1) D) := fun ty dc sc =>
    run_copy_k w.drew _ _ ty 37 1 g (i + 1) _ dc ⟨g, i, none⟩ _ sc D Tryd.underlying24 hsz2 (by rw [hdl]; congr 1; simp only [Nat.min_def]; split <;> omega)
      (fun j v hj => by rw [Addr.add_lit]; exact hcell j v hj)
      (fun j hj => by rw [hbd.cell, Array.getElem?_eq_getElem (by rw [hdl] at hj; omega)]; rfl) (fun j hj => hbd.frozen _) hD1
  obtain ⟨W1, hW1⟩ : ∃ W1, W1 = w.drew.setCells g (i + 1) D := ⟨_, rfl⟩
  obtain ⟨c1, b1, sz1, _⟩ := setCells_blk D (i + 1) w.drew cur hbd (by rw [hdl, hsize]; omega)
  rw [← hW1] at b1 hcp1
  have hxW : ∀ j, W1.cell? ⟨gx, j, none⟩ = w.cell? ⟨gx, j, none⟩ := fun j => by
    rw [hW1, World.cell?_setCells_out g _ _ _ _ (fun h _ => absurd h hgx)]
    rfl
  have hcp2 : ∀ ty dc, (Builtin.copy_ #[24, 24] ty #[.slice (some ⟨g, i, none⟩) (l.length + 1 - i) dc, .slice (some ⟨gx, 0, none⟩) 1 1]).run Tryd.prog W1 = .ok (goInt (Nat.min 1 (l.length + 1 - i))) (W1.setCells g i (encSR x)) := fun ty dc =>
    run_copy_k W1 _ _ ty 37 1 g i _ dc ⟨gx, 0, none⟩ 1 1 (encSR x) Tryd.underlying24 hsz2 (by rw [encSR_len, show Nat.min 1 (l.length + 1 - i) = 1 by simp only [Nat.min_def]; split <;> omega])
      (fun j v hj => by rw [Addr.add_lit, hxW, hx.cell, Nat.zero_add]; simpa using hj)
      (fun j hj => by rw [b1.cell, Array.getElem?_eq_getElem (by rw [encSR_len] at hj; omega)]; rfl) (fun j hj => b1.frozen _) (one_sr x)
  have Hend : Hid (InsS w base 37 encSR 1 (some ⟨g, 0, none⟩) l i x (.returned (.slice (some ⟨g, 0, none⟩) (l.length + 1) c)) (W1.setCells g i (encSR x))) := by
    obtain ⟨c2, b2, s2, t2⟩ := ins_room (l := l) encSR_len i (by omega) x cur hbd (by rw [hsize]; omega) (fun j hj => by
      have h7 : (cur.toList.take (l.length * 1))[j]? = (l.flatMap encSR)[j]? := by rw [htake]
      rw [List.getElem?_take, if_pos (by omega), Array.getElem?_toList] at h7
      rw [h7]
      conv => lhs; rw [← List.take_append_drop i l, List.flatMap_append]
      rw [List.getElem?_append_left (by rw [flat_len encSR_len, List.length_take]; omega)])
    have hlen2 : (l.take i ++ x :: l.drop i).length = l.length + 1 := by simp; omega
    refine ⟨some ⟨g, 0, none⟩, c, rfl, ⟨by rw [flat_len encSR_len, hlen2], .inr ⟨g, c, c2, by rw [hlen2], hbase, ?_, by omega, hmax, by rw [s2, hsize], by rw [hlen2]; exact t2⟩⟩, ?_⟩
    · rw [hW1, hD]; simp only [Nat.mul_one] at b2; exact b2
    · rw [hW1]
      exact Wr.setCells (S := blkOf (some ⟨g, 0, none⟩)) ⟨0, rfl⟩ _ _ (Wr.setCells (S := blkOf (some ⟨g, 0, none⟩)) ⟨0, rfl⟩ _ _ (Wr.refl (blkOf (some ⟨g, 0, none⟩)) w).drew)
  have h1 : (i : Int) ≤ (l.length : Int) := by omega
  have h2 : ((i : Int) == (l.length : Int)) = false := by rw [beq_eq_false_iff_ne]; omega
  have h3 : i ≤ c := by omega
  have h4 : i + 1 ≤ c := by omega
  have h5 : ¬ c = i := by omega
  have h6 : ¬ c = i + 1 := by omega
  have h7 : (l.length : Int) + 1 ≤ (c : Int) := by omega
  have h8 : l.length + 1 ≤ c := by omega
  have h9 : i + 1 ≤ l.length + 1 := by omega
  have h10 : i ≤ l.length + 1 := by omega
  have h11 : IntKind.i64.wrap ((i : Int) + 1) = (i : Int) + 1 := by rw [IntKind.wrap_i64]; omega
  have h12 : (0 : Int) ≤ (i : Int) + 1 := by omega
  have h13 : (i : Int) + 1 ≤ (l.length : Int) + 1 := by omega
  have h14 : ((i : Int) + 1).toNat = i + 1 := by omega
  have h15 : (i : Int) ≤ (l.length : Int) + 1 := by omega
  clear hW1 hxW b1 hcell hbd hv htake hsize hblk hx hbase hD hD1 hdl
  go_enter Tryd.func30, Tryd.ntmps30
  go_wp2_with (simp only [hov])
  go_region_law (refine step_copyR rfl (.tmp 73) (.tmp 76) 24 24 rfl (.slice (some ⟨g, i + 1, none⟩) (l.length + 1 - (i + 1)) (c - (i + 1))) (.slice (some ⟨g, i, none⟩) (l.length + 1 - i) (c - i)) (by simp [Act.eval, Act.put]) (by simp [Act.eval, Act.put]) (hcp1 _ _ _) ?_)
  all_goals
    go_wp2_with (at_builtin; refine wpList_copyR _ rfl (.tmp 80) (.tmp 81) 24 24 rfl (.slice (some ⟨g, i, none⟩) (l.length + 1 - i) (c - i)) (.slice (some ⟨gx, 0, none⟩) 1 1) rfl rfl (hcp2 _ _) ?_)
    go_ret
    exact Hend.out
set_option maxHeartbeats 1000000 in
set_option maxRecDepth 100000 in
theorem Insert_grow_SRow (g base gx i : Nat) (l : List SRow) (x : SRow) (w : World) (hv : Vec w base 37 encSR 1 (.slice (some ⟨g, 0, none⟩) l.length l.length) l) (hx : Blk w gx 37 (encSR x).toArray) (hm : l.length ≤ 1048576) (hi : i < l.length) (hbw : base ≤ w.heap.size) :
    Calls Tryd.prog 30 #[.slice (some ⟨g, 0, none⟩) l.length l.length, .int .i64 (i : Int), .slice (some ⟨gx, 0, none⟩) 1 1] w (InsS w base 37 encSR 1 (some ⟨g, 0, none⟩) l i x) := by
  obtain ⟨cur, hblk, hbase, _, hmax, hsize, htake⟩ := hv.row
  have hgw := hblk.lt
  have hxw := hx.lt
  have hlen : (l.length : Int) ≤ 1048576 := by omega
  have hlen' : l.length ≤ 9223372036854775807 := by omega
  obtain ⟨i0, hi0, hz0, hzs, hzb⟩ := info_parts (show (Tryd.prog.info? 37).map (fun i => (i.zero, i.size, i.bytes)) = some (some (.slice none 0 0), 1, 24) by kernel_rfl)
  have hsz2 : (Tryd.prog.info? 37).map (·.size) = some 1 := by kernel_rfl
  have hti : ((l.take i).flatMap encSR).length = i * 1 := by rw [flat_len encSR_len, List.length_take]; congr 1; omega
  have hdl : ((l.drop i).flatMap encSR).length = (l.length - i) * 1 := by rw [flat_len encSR_len, List.length_drop]
  have hcur : ∀ j, j < l.length * 1 → cur[j]? = (l.flatMap encSR)[j]? := fun j hj => by
    have h7 : (cur.toList.take (l.length * 1))[j]? = (l.flatMap encSR)[j]? := by rw [htake]
    rwa [List.getElem?_take, if_pos (by omega), Array.getElem?_toList] at h7
  have hcutL : ∀ j, j < i * 1 → (l.flatMap encSR)[j]? = ((l.take i).flatMap encSR)[j]? := fun j hj => by
    conv => lhs; rw [← List.take_append_drop i l, List.flatMap_append]
    rw [List.getElem?_append_left (by omega)]
  have hcutR : ∀ j, (l.flatMap encSR)[i + j]? = ((l.drop i).flatMap encSR)[j]? := fun j => by
    conv => lhs; rw [← List.take_append_drop i l, List.flatMap_append]
    rw [List.getElem?_append_right (by omega), hti]
    congr 1; omega
  have hold : (Builtin.firstCells i0.size i (.slice (some ⟨g, 0, none⟩) i l.length)).run Tryd.prog w.drew = .ok ((l.take i).flatMap encSR).toArray w.drew := by
    rw [hzs]
    exact run_firstCells_some w.drew 1 i ⟨g, 0, none⟩ i l.length _ hti (fun j v hj => by
      have hjl : j < i * 1 := by rw [← hti]; exact (List.getElem?_eq_some_iff.1 hj).1
      rw [Addr.add_lit, Nat.zero_add]
      show w.cell? _ = _
      rw [hblk.cell, hcur _ (by omega), hcutL _ hjl]
      exact hj)
  have hrz : ∀ ty, (Builtin.append_ #[24, 3] ty #[.slice (some ⟨g, 0, none⟩) i l.length, .int .i64 ((l.length : Int) + 1 - (i : Int))]).run Tryd.prog w =
      .ok (.slice (some ⟨w.heap.size, 0, none⟩) (l.length + 1) (grownCap w (l.length + 1) l.length 37)) (w.drew.alloc (.cells (((l.take i).flatMap encSR).toArray ++ Builtin.zeroCells (Value.slice none 0 0).cells (l.length + 1 - i) ++ Builtin.zeroCells (Value.slice none 0 0).cells (grownCap w (l.length + 1) l.length 37 - (l.length + 1))) 37)) := fun ty => by
    have hik : i + (l.length + 1 - i) = l.length + 1 := by omega
    have h := Lib.run_append_grow_zeros w 24 3 ty 37 i0 _ .i64 .i64 Tryd.underlying24 Tryd.underlying3 hi0 hz0 (some ⟨g, 0, none⟩) i l.length _ hold (l.length + 1 - i) (by omega) (by omega) (by omega) (by omega) (by rw [hzb]; omega) (by rw [hzb, hik]; exact growslice_fits (by omega) (by omega))
    rw [hik] at h
    rw [show (l.length : Int) + 1 - (i : Int) = ((l.length + 1 - i : Nat) : Int) by omega]
    exact h
  obtain ⟨G, hG⟩ : ∃ G, G = grownCap w (l.length + 1) l.length 37 := ⟨_, rfl⟩
  obtain ⟨ROW, hROW⟩ : ∃ ROW : Array Value, ROW = ((l.take i).flatMap encSR).toArray ++ Builtin.zeroCells (Value.slice none 0 0).cells (l.length + 1 - i) ++ Builtin.zeroCells (Value.slice none 0 0).cells (G - (l.length + 1)) := ⟨_, rfl⟩
  rw [← hG] at hrz
  rw [← hROW] at hrz
  have hGn : l.length + 1 ≤ G := by rw [hG]; exact grownCap_ge w _ _ _
  have hGm : G ≤ maxLen := by rw [hG]; exact grownCap_le_maxLen w (l.length + 1) l.length 37 (by unfold maxLen; omega)
  have hG63 : G ≤ 9223372036854775807 := by unfold maxLen at hGm; omega
  have hRs : ROW.size = G * 1 := by
    rw [hROW]
    simp only [Array.size_append, List.size_toArray, size_zeroCells, hti]
    rw [show (Value.slice none 0 0).cells.size = 1 from rfl]
    omega
  have hRt : ∀ j, j < i * 1 → ROW[j]? = ((l.take i).flatMap encSR)[j]? := fun j hj => by
    rw [hROW, Array.append_assoc, Array.getElem?_append_left (by simp only [List.size_toArray, hti]; exact hj)]
    simp
  obtain ⟨N, hN⟩ : ∃ N, N = w.heap.size := ⟨_, rfl⟩
  rw [← hN] at hrz
  obtain ⟨W1, hW1⟩ : ∃ W1, W1 = w.drew.alloc (.cells ROW 37) := ⟨_, rfl⟩
  have hB1 : Blk W1 N 37 ROW := by rw [hW1, hN]; exact Blk.new w.drew _ _
  have hP1 : Wr (blkOf (some ⟨g, 0, none⟩)) w W1 := by rw [hW1]; exact (Wr.refl _ w).drew.alloc _
  rw [← hW1] at hrz
  have hxW : ∀ j, W1.cell? ⟨gx, j, none⟩ = w.cell? ⟨gx, j, none⟩ := fun j => by
    rw [hW1, World.cell?_alloc_past (w := w.drew) _ gx j hxw]; rfl
  have hgW : ∀ j, W1.cell? ⟨g, j, none⟩ = w.cell? ⟨g, j, none⟩ := fun j => by
    rw [hW1, World.cell?_alloc_past (w := w.drew) _ g j hgw]; rfl
  have hcpA : ∀ ty dc, (Builtin.copy_ #[24, 24] ty #[.slice (some ⟨N, i, none⟩) (l.length + 1 - i) dc, .slice (some ⟨gx, 0, none⟩) 1 1]).run Tryd.prog W1 = .ok (goInt (Nat.min 1 (l.length + 1 - i))) (W1.setCells N i (encSR x)) := fun ty dc =>
    run_copy_k W1 _ _ ty 37 1 N i _ dc ⟨gx, 0, none⟩ 1 1 (encSR x) Tryd.underlying24 hsz2 (by rw [encSR_len, show Nat.min 1 (l.length + 1 - i) = 1 by simp only [Nat.min_def]; split <;> omega])
      (fun j v hj => by rw [Addr.add_lit, hxW, hx.cell, Nat.zero_add]; simpa using hj)
      (fun j hj => by rw [hB1.cell, Array.getElem?_eq_getElem (by rw [encSR_len] at hj; omega)]; rfl) (fun j hj => hB1.frozen _) (one_sr x)
  obtain ⟨W2, hW2⟩ : ∃ W2, W2 = W1.setCells N i (encSR x) := ⟨_, rfl⟩
  obtain ⟨cx, hB2, sz2, _⟩ := setCells_blk (encSR x) i W1 ROW hB1 (by rw [encSR_len, hRs]; omega)
  rw [← hW2] at hB2 hcpA
  have hgN : g ≠ N := by omega
  have hgW2 : ∀ j, W2.drew.cell? ⟨g, j, none⟩ = w.cell? ⟨g, j, none⟩ := fun j => by
    show W2.cell? _ = _
    rw [hW2, World.cell?_setCells_out N _ _ _ _ (fun h _ => absurd h hgN)]
    exact hgW j
  have hB2d : Blk W2.drew N 37 cx := hB2
  have hcpB : ∀ ty dc sc, (Builtin.copy_ #[24, 24] ty #[.slice (some ⟨N, i + 1, none⟩) (l.length + 1 - (i + 1)) dc, .slice (some ⟨g, i, none⟩) (l.length - i) sc]).run Tryd.prog W2.drew = .ok (goInt (Nat.min (l.length - i) (l.length + 1 - (i + 1)))) (W2.drew.setCells N (i + 1) ((l.drop i).flatMap encSR)) := fun ty dc sc =>
    run_copy_k W2.drew _ _ ty 37 1 N (i + 1) _ dc ⟨g, i, none⟩ _ sc _ Tryd.underlying24 hsz2 (by rw [hdl]; congr 1; simp only [Nat.min_def]; split <;> omega)
      (fun j v hj => by
        have hjl : j < (l.length - i) * 1 := by rw [← hdl]; exact (List.getElem?_eq_some_iff.1 hj).1
        rw [Addr.add_lit, hgW2, hblk.cell, hcur _ (by omega), hcutR]
        exact hj)
      (fun j hj => by rw [hB2d.cell, Array.getElem?_eq_getElem (by rw [hdl] at hj; omega)]; rfl) (fun j hj => hB2d.frozen _) (fun u hu => by
        obtain ⟨a, _, ha⟩ := List.mem_flatMap.1 hu
        exact one_sr a u ha)
  obtain ⟨W3, hW3⟩ : ∃ W3, W3 = W2.drew.setCells N (i + 1) ((l.drop i).flatMap encSR) := ⟨_, rfl⟩
  rw [← hW3] at hcpB
  have Hend : Hid (InsS w base 37 encSR 1 (some ⟨g, 0, none⟩) l i x (.returned (.slice (some ⟨N, 0, none⟩) (l.length + 1) G)) W3) := by
    have hB1d : Blk W1.drew N 37 ROW := hB1
    obtain ⟨c2, b2, s2, t2⟩ := ins_grow (l := l) encSR_len i (by omega) x ROW hB1d (by rw [hRs]; omega) hRt
    have hlen2 : (l.take i ++ x :: l.drop i).length = l.length + 1 := by simp; omega
    refine ⟨some ⟨N, 0, none⟩, G, rfl, ⟨by rw [flat_len encSR_len, hlen2], .inr ⟨N, G, c2, by rw [hlen2], by omega, ?_, by omega, hGm, by rw [s2, hRs], by rw [hlen2]; exact t2⟩⟩, ?_⟩
    · rw [hW3, hW2, drew_setCells_]; simp only [Nat.mul_one] at b2; exact b2
    · rw [hW3, hW2]
      exact Wr.setCellsN (by omega) _ _ (Wr.setCellsN (by omega) _ _ hP1).drew
  have h1 : (i : Int) ≤ (l.length : Int) := by omega
  have h2 : ((i : Int) == (l.length : Int)) = false := by rw [beq_eq_false_iff_ne]; omega
  have h3 : i ≤ l.length := by omega
  have h5 : ¬ G = i := by omega
  have h6 : ¬ G = i + 1 := by omega
  have h7 : (l.length : Int) < (l.length : Int) + 1 := by omega
  have h9 : i + 1 ≤ l.length + 1 := by omega
  have h10 : i ≤ l.length + 1 := by omega
  have h11 : IntKind.i64.wrap ((i : Int) + 1) = (i : Int) + 1 := by rw [IntKind.wrap_i64]; omega
  have h12 : (0 : Int) ≤ (i : Int) + 1 := by omega
  have h13 : (i : Int) + 1 ≤ (l.length : Int) + 1 := by omega
  have h14 : ((i : Int) + 1).toNat = i + 1 := by omega
  have h15 : (i : Int) ≤ (l.length : Int) + 1 := by omega
  have h16 : i + 1 ≤ G := by omega
  have h17 : i ≤ G := by omega
  have h18 : ¬ l.length = i := by omega
  clear hW1 hW2 hW3 hxW hgW hgW2 hB1 hB2 hB2d hP1 hv htake hsize hblk hx hbase hdl hti hcur hcutL hcutR hold hROW hG hRs hRt hN hi0 hz0 hzs hzb sz2
  go_enter Tryd.func30, Tryd.ntmps30
  go_wp2_with (first
    | (at_builtin; refine Lib.wpList_append_run _ rfl (.tmp 34) (.tmp 39) 24 3 rfl (.slice (some ⟨g, 0, none⟩) i l.length) (.int .i64 ((l.length : Int) + 1 - (i : Int))) rfl rfl _ _ (hrz _) ?_)
    | (at_builtin; refine wpList_copyR _ rfl (.tmp 43) (.tmp 44) 24 24 rfl (.slice (some ⟨N, i, none⟩) (l.length + 1 - i) (G - i)) (.slice (some ⟨gx, 0, none⟩) 1 1) rfl rfl (hcpA _ _) ?_))
  go_region_law (refine step_copyR rfl (.tmp 50) (.tmp 53) 24 24 rfl (.slice (some ⟨N, i + 1, none⟩) (l.length + 1 - (i + 1)) (G - (i + 1))) (.slice (some ⟨g, i, none⟩) (l.length - i) (l.length - i)) (by simp [Act.eval, Act.put]) (by simp [Act.eval, Act.put]) (hcpB _ _ _) ?_)
  all_goals
    go_wp2_with fail
    go_ret
    exact Hend.out

theorem Insert_SRow (A : Option Addr) (c base gx i : Nat) (l : List SRow) (x : SRow) (w : World) (hv : Vec w base 37 encSR 1 (.slice A l.length c) l) (hx : Blk w gx 37 (encSR x).toArray) (hgx : ¬ blkOf A gx) (hm : l.length ≤ 1048576) (hi : i ≤ l.length) (hbw : base ≤ w.heap.size) :
    Calls Tryd.prog 30 #[.slice A l.length c, .int .i64 (i : Int), .slice (some ⟨gx, 0, none⟩) 1 1] w (InsS w base 37 encSR 1 A l i x) := by
  by_cases he : i = l.length
  · subst he
    exact Insert_end_SRow A c base gx l x w hv (fun hn => ⟨gx, 0, rfl, hx.lt, fun j0 hj0 j u hj => by
      obtain rfl : j0 = 0 := by simp at hj0; omega
      rw [hx.cell]; simpa using hj⟩) hm hbw
  · obtain ⟨g, rfl⟩ := hv.some (by omega)
    have hcap := hv.capOk
    by_cases hr : l.length + 1 ≤ c
    · exact Insert_room_SRow g c base gx i l x w hv hx (fun h => hgx ⟨0, by rw [h]⟩) hm (by omega) hr
    · obtain rfl : c = l.length := by omega
      exact Insert_grow_SRow g base gx i l x w hv hx hm (by omega) hbw

end Go.Proofs.YtlhihdcdbclcbaaDoor
