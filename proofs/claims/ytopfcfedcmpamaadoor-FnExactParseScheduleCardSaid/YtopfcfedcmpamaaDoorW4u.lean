/- Contracts: ScheduleText. -/
import Derived.Test.YtopfcfedcmpamaaDoorW4t
namespace Go.Proofs.YtopfcfedcmpamaaDoor
set_option linter.unusedVariables false
set_option linter.unusedSimpArgs false
open Go.RowKit Go.Shelf
attribute [local go_sem] Aft.cell

set_option maxHeartbeats 4000000 in
set_option maxRecDepth 100000 in
theorem l4Text_any (A : Option Addr) (c : Nat) (l : List RuleD) (w : World) (hl : Ls w w.heap.size encRule 4 A l) (hs : schedB l = true) :
    Calls Tryd.prog 34 #[.slice A l.length c] w fun e w' => e = .returned (.string (schT l)) ∧ Below w.heap.size w w' := by
  obtain ⟨hl8, hbd⟩ := sched_bd hs
  have hlen : (l.length : Int) ≤ 8 := by omega
  have Hbd := Lib.hid hbd
  have Hrs := Lib.hid (sched_rulT hs)
  clear hbd hs
  go_enter Tryd.func34, Tryd.ntmps34
  go_wp2_with fail
  go_loopw [3, 4] (fun v i wr => ∃ k : Nat, k ≤ l.length ∧ i = .int .i64 k ∧ v = .string (schK l k) ∧ Below w.heap.size w wr) (fun _ i _ => l.length - (intOf i).toNat)
  case atStart => exact ⟨0, Nat.zero_le _, rfl, by rw [schK_zero], Below.refl _ _⟩
  case round =>
    obtain ⟨k, hk, rfl, rfl, hb⟩ := hrel
    have hsz := hb.size
    by_cases hlt : k < l.length
    · obtain ⟨b, off, rfl, hbb, hc0, hc1, hc2, hc3⟩ := (hl.below hb).at_Rule hlt
      obtain ⟨⟨e1, e2⟩, ⟨e3, e4⟩, ⟨e5, e6⟩, ⟨e7, e8⟩⟩ := Hbd.out k hlt
      have zk := schK_size l Hrs.out k hk
      by_cases hk0 : k = 0
      · have hkg : ¬ (0 : Int) < (k : Int) := by omega
        have Hs : Hid (schK l (k + 1) = schK l k ++ rulT l[k]) := by
          unfold Hid
          have h := schK_one (l := l) (by omega)
          have h2 := schK_zero l
          subst hk0
          rw [h2]; exact h
        clear hk0
        have z1 := numB_len l[k].s (by omega) (by omega)
        have z2 := numB_len l[k].e (by omega) (by omega)
        have z3 := numB_len l[k].d (by omega) (by omega)
        have hidx : (#[.string ⟨#[]⟩, .string ⟨#[107]⟩, .string ⟨#[116]⟩, .string ⟨#[100]⟩] : Array Value)[((l[k].a).toNat)]? = some (.string (actT l[k].a)) := by
          obtain h | h | h : l[k].a = 1 ∨ l[k].a = 2 ∨ l[k].a = 3 := by omega
          · rw [h]; rfl
          · rw [h]; rfl
          · rw [h]; rfl
        have p0 : ¬ (9223372036854775807 < (schK l k).size + (numB l[k].s).size) := by (try simp only [litR1, litR2, litR3, actT_size]); omega
        have o1 : (schK l k).size + (numB l[k].s).size ≤ 9223372036854775807 := by (try simp only [litR1, litR2, litR3, actT_size]); omega
        have p1 : ¬ (9223372036854775807 < (schK l k).size + (numB l[k].s).size + 1) := by (try simp only [litR1, litR2, litR3, actT_size]); omega
        have o2 : (schK l k).size + (numB l[k].s).size + 1 ≤ 9223372036854775807 := by (try simp only [litR1, litR2, litR3, actT_size]); omega
        have p2 : ¬ (9223372036854775807 < (schK l k).size + (numB l[k].s).size + 1 + (numB l[k].e).size) := by (try simp only [litR1, litR2, litR3, actT_size]); omega
        have o3 : (schK l k).size + (numB l[k].s).size + 1 + (numB l[k].e).size ≤ 9223372036854775807 := by (try simp only [litR1, litR2, litR3, actT_size]); omega
        have p3 : ¬ (9223372036854775807 < (schK l k).size + (numB l[k].s).size + 1 + (numB l[k].e).size + 1) := by (try simp only [litR1, litR2, litR3, actT_size]); omega
        have o4 : (schK l k).size + (numB l[k].s).size + 1 + (numB l[k].e).size + 1 ≤ 9223372036854775807 := by (try simp only [litR1, litR2, litR3, actT_size]); omega
        have p4 : ¬ (9223372036854775807 < (schK l k).size + (numB l[k].s).size + 1 + (numB l[k].e).size + 1 + (numB l[k].d).size) := by (try simp only [litR1, litR2, litR3, actT_size]); omega
        have o5 : (schK l k).size + (numB l[k].s).size + 1 + (numB l[k].e).size + 1 + (numB l[k].d).size ≤ 9223372036854775807 := by (try simp only [litR1, litR2, litR3, actT_size]); omega
        have p5 : ¬ (9223372036854775807 < (schK l k).size + (numB l[k].s).size + 1 + (numB l[k].e).size + 1 + (numB l[k].d).size + (actT l[k].a).size) := by (try simp only [litR1, litR2, litR3, actT_size]); omega
        have o6 : (schK l k).size + (numB l[k].s).size + 1 + (numB l[k].e).size + 1 + (numB l[k].d).size + (actT l[k].a).size ≤ 9223372036854775807 := by (try simp only [litR1, litR2, litR3, actT_size]); omega
        have p6 : ¬ (9223372036854775807 < (schK l k).size + (numB l[k].s).size) := by (try simp only [litR1, litR2, litR3, actT_size]); omega
        have o7 : (schK l k).size + (numB l[k].s).size ≤ 9223372036854775807 := by (try simp only [litR1, litR2, litR3, actT_size]); omega
        have p7 : ¬ (9223372036854775807 < (schK l k).size + (numB l[k].s).size + (ByteArray.mk #[46]).size) := by (try simp only [litR1, litR2, litR3, actT_size]); omega
        have o8 : (schK l k).size + (numB l[k].s).size + (ByteArray.mk #[46]).size ≤ 9223372036854775807 := by (try simp only [litR1, litR2, litR3, actT_size]); omega
        have p8 : ¬ (9223372036854775807 < (schK l k).size + (numB l[k].s).size + (ByteArray.mk #[46]).size + (numB l[k].e).size) := by (try simp only [litR1, litR2, litR3, actT_size]); omega
        have o9 : (schK l k).size + (numB l[k].s).size + (ByteArray.mk #[46]).size + (numB l[k].e).size ≤ 9223372036854775807 := by (try simp only [litR1, litR2, litR3, actT_size]); omega
        have p9 : ¬ (9223372036854775807 < (schK l k).size + (numB l[k].s).size + (ByteArray.mk #[46]).size + (numB l[k].e).size + (ByteArray.mk #[43]).size) := by (try simp only [litR1, litR2, litR3, actT_size]); omega
        have o10 : (schK l k).size + (numB l[k].s).size + (ByteArray.mk #[46]).size + (numB l[k].e).size + (ByteArray.mk #[43]).size ≤ 9223372036854775807 := by (try simp only [litR1, litR2, litR3, actT_size]); omega
        have p10 : ¬ (9223372036854775807 < (schK l k).size + (numB l[k].s).size + (ByteArray.mk #[46]).size + (numB l[k].e).size + (ByteArray.mk #[43]).size + (numB l[k].d).size) := by (try simp only [litR1, litR2, litR3, actT_size]); omega
        have o11 : (schK l k).size + (numB l[k].s).size + (ByteArray.mk #[46]).size + (numB l[k].e).size + (ByteArray.mk #[43]).size + (numB l[k].d).size ≤ 9223372036854775807 := by (try simp only [litR1, litR2, litR3, actT_size]); omega
        have p11 : ¬ (9223372036854775807 < (schK l k).size + (numB l[k].s).size + (ByteArray.mk #[46]).size + (numB l[k].e).size + (ByteArray.mk #[43]).size + (numB l[k].d).size + (actT l[k].a).size) := by (try simp only [litR1, litR2, litR3, actT_size]); omega
        have o12 : (schK l k).size + (numB l[k].s).size + (ByteArray.mk #[46]).size + (numB l[k].e).size + (ByteArray.mk #[43]).size + (numB l[k].d).size + (actT l[k].a).size ≤ 9223372036854775807 := by (try simp only [litR1, litR2, litR3, actT_size]); omega
        have hxB : Blk (wr.alloc (.cells #[.int .i64 l[k].s, .int .i64 l[k].e, .int .i64 l[k].d, .int .i64 l[k].a] 58)) wr.heap.size 58 #[.int .i64 l[k].s, .int .i64 l[k].e, .int .i64 l[k].d, .int .i64 l[k].a] := Blk.new _ _ _
        have hBB := blw_alloc hb (.cells #[.int .i64 l[k].s, .int .i64 l[k].e, .int .i64 l[k].d, .int .i64 l[k].a] 58)
        have hq : b < wr.heap.size := by omega
        have h4a : l[k].a < 4 := by omega
        have h0a : 0 ≤ l[k].a := by omega
        go_wp2_with fail
        generalize (wr.alloc (.cells #[.int .i64 l[k].s, .int .i64 l[k].e, .int .i64 l[k].d, .int .i64 l[k].a] 58)) = wB at *
        refine wp_region_noPanic ?_
        refine wp_region_held_drew (S := fun W => Below w.heap.size w W ∧ W.cell? ⟨wr.heap.size, 0, none⟩ = some (.int .i64 l[k].s) ∧ W.cell? ⟨wr.heap.size, 1, none⟩ = some (.int .i64 l[k].e) ∧ W.cell? ⟨wr.heap.size, 2, none⟩ = some (.int .i64 l[k].d) ∧ W.cell? ⟨wr.heap.size, 3, none⟩ = some (.int .i64 l[k].a)) (by kernel_rfl) (keep4 (Below.refl _ _).drew ⟨hBB, hxB.cell 0, hxB.cell 1, hxB.cell 2, hxB.cell 3⟩) (fun hHeld => ?_)
        refine wpAnyH_take (i := 0) (v := ?v1) rfl (by kernel_rfl) (by kernel_rfl) (by kernel_rfl) (fun _ _ _ h => h) (Or.inl ⟨by rfl, ?hy1⟩) hHeld ?rest1
        case hy1 => (intro W hSw; (try dsimp only at hSw); go_simp) <;> with_reducible rfl
        try simp only [Act.put, List.setIfInBounds_toArray, List.set_cons_zero, List.set_cons_succ, List.getElem_toArray, List.getElem_cons_succ, List.getElem_cons_zero]
        refine wpAnyH_take (i := 1) (v := ?v2) rfl (by kernel_rfl) (by kernel_rfl) (by kernel_rfl) (fun _ _ _ h => h) (Or.inl ⟨by rfl, ?hy2⟩) hHeld ?rest2
        case hy2 => (intro W hSw; (try dsimp only at hSw); go_simp) <;> with_reducible rfl
        try simp only [Act.put, List.setIfInBounds_toArray, List.set_cons_zero, List.set_cons_succ, List.getElem_toArray, List.getElem_cons_succ, List.getElem_cons_zero]
        refine wpAnyH_take (i := 2) (v := ?v3) rfl (by kernel_rfl) (by kernel_rfl) (by kernel_rfl) (fun _ _ _ h => h) (Or.inl ⟨by rfl, ?hy3⟩) hHeld ?rest3
        case hy3 => (intro W hSw; (try dsimp only at hSw); go_simp) <;> with_reducible rfl
        try simp only [Act.put, List.setIfInBounds_toArray, List.set_cons_zero, List.set_cons_succ, List.getElem_toArray, List.getElem_cons_succ, List.getElem_cons_zero]
        refine wpAnyH_take (i := 6) (v := ?v4) rfl (by kernel_rfl) (by kernel_rfl) (by kernel_rfl) (fun _ _ _ h => h) (Or.inl ⟨by rfl, ?hy4⟩) hHeld ?rest4
        case hy4 => (intro W hSw; (try dsimp only at hSw); go_simp) <;> with_reducible rfl
        try simp only [Act.put, List.setIfInBounds_toArray, List.set_cons_zero, List.set_cons_succ, List.getElem_toArray, List.getElem_cons_succ, List.getElem_cons_zero]
        refine wpAnyH_take (i := 7) (v := ?v5) rfl (by kernel_rfl) (by kernel_rfl) (by kernel_rfl) (fun _ _ _ h => h) (Or.inl ⟨by rfl, ?hy5⟩) hHeld ?rest5
        case hy5 => (intro W hSw; (try dsimp only at hSw); go_simp) <;> with_reducible rfl
        try simp only [Act.put, List.setIfInBounds_toArray, List.set_cons_zero, List.set_cons_succ, List.getElem_toArray, List.getElem_cons_succ, List.getElem_cons_zero]
        refine wpAnyH_take (i := 11) (v := ?v6) rfl (by kernel_rfl) (by kernel_rfl) (by kernel_rfl) (fun _ _ _ h => h) (Or.inl ⟨by rfl, ?hy6⟩) hHeld ?rest6
        case hy6 => (intro W hSw; (try dsimp only at hSw); go_simp) <;> with_reducible rfl
        try simp only [Act.put, List.setIfInBounds_toArray, List.set_cons_zero, List.set_cons_succ, List.getElem_toArray, List.getElem_cons_succ, List.getElem_cons_zero]
        refine wpAnyH_take (i := 12) (v := ?v7) rfl (by kernel_rfl) (by kernel_rfl) (by kernel_rfl) (fun _ _ _ h => h) (Or.inl ⟨by rfl, ?hy7⟩) hHeld ?rest7
        case hy7 => (intro W hSw; (try dsimp only at hSw); go_simp) <;> with_reducible rfl
        try simp only [Act.put, List.setIfInBounds_toArray, List.set_cons_zero, List.set_cons_succ, List.getElem_toArray, List.getElem_cons_succ, List.getElem_cons_zero]
        refine wpAnyH_take (i := 16) (v := ?v8) rfl (by kernel_rfl) (by kernel_rfl) (by kernel_rfl) (fun _ _ _ h => h) (Or.inl ⟨by rfl, ?hy8⟩) hHeld ?rest8
        case hy8 => (intro W hSw; (try dsimp only at hSw); go_simp) <;> with_reducible rfl
        try simp only [Act.put, List.setIfInBounds_toArray, List.set_cons_zero, List.set_cons_succ, List.getElem_toArray, List.getElem_cons_succ, List.getElem_cons_zero]
        refine wpAnyH_take (i := 17) (v := ?v9) rfl (by kernel_rfl) (by kernel_rfl) (by kernel_rfl) (fun _ _ _ h => h) (Or.inl ⟨by rfl, ?hy9⟩) hHeld ?rest9
        case hy9 => (intro W hSw; (try dsimp only at hSw); go_simp) <;> with_reducible rfl
        try simp only [Act.put, List.setIfInBounds_toArray, List.set_cons_zero, List.set_cons_succ, List.getElem_toArray, List.getElem_cons_succ, List.getElem_cons_zero]
        refine wpAnyH_ready (rs := [3, 15]) (by kernel_rfl) (by simp) ?_
        refine AllReadyH.cons rfl (fun K hK => ?_) (AllReadyH.cons rfl (fun K hK => ?_) AllReadyH.nil)
        · go_simp
          refine (l1Num_any _ (by omega) (by omega) _).mono ?_
          rintro e wd1 ⟨rfl, hd1⟩
          go_wp2_with fail
          refine hK.out _ _ ⟨blw hHeld.1 hd1, (Below.cell hd1 (cell_lt hHeld.2.1)).trans hHeld.2.1, (Below.cell hd1 (cell_lt hHeld.2.2.1)).trans hHeld.2.2.1, (Below.cell hd1 (cell_lt hHeld.2.2.2.1)).trans hHeld.2.2.2.1, (Below.cell hd1 (cell_lt hHeld.2.2.2.2)).trans hHeld.2.2.2.2⟩ (fun hH2 => ?_)
          clear hK K hHeld
          have hHeld := hH2
          clear hH2
          try simp only [Act.put, List.setIfInBounds_toArray, List.set_cons_zero, List.set_cons_succ, List.getElem_toArray, List.getElem_cons_succ, List.getElem_cons_zero]
          refine wpAnyH_take (i := 4) (v := ?v10) rfl (by kernel_rfl) (by kernel_rfl) (by kernel_rfl) (fun _ _ _ h => h) (Or.inl ⟨by rfl, ?hy10⟩) hHeld ?rest10
          case hy10 => (intro W hSw; (try dsimp only at hSw); go_simp) <;> with_reducible rfl
          try simp only [Act.put, List.setIfInBounds_toArray, List.set_cons_zero, List.set_cons_succ, List.getElem_toArray, List.getElem_cons_succ, List.getElem_cons_zero]
          refine wpAnyH_take (i := 5) (v := ?v11) rfl (by kernel_rfl) (by kernel_rfl) (by kernel_rfl) (fun _ _ _ h => h) (Or.inl ⟨by rfl, ?hy11⟩) hHeld ?rest11
          case hy11 => (intro W hSw; (try dsimp only at hSw); go_simp) <;> with_reducible rfl
          try simp only [Act.put, List.setIfInBounds_toArray, List.set_cons_zero, List.set_cons_succ, List.getElem_toArray, List.getElem_cons_succ, List.getElem_cons_zero]
          refine wpAnyH_ready (rs := [8, 15]) (by kernel_rfl) (by simp) ?_
          refine AllReadyH.cons rfl (fun K hK => ?_) (AllReadyH.cons rfl (fun K hK => ?_) AllReadyH.nil)
          · go_simp
            refine (l1Num_any _ (by omega) (by omega) _).mono ?_
            rintro e wd2 ⟨rfl, hd2⟩
            go_wp2_with fail
            refine hK.out _ _ ⟨blw hHeld.1 hd2, (Below.cell hd2 (cell_lt hHeld.2.1)).trans hHeld.2.1, (Below.cell hd2 (cell_lt hHeld.2.2.1)).trans hHeld.2.2.1, (Below.cell hd2 (cell_lt hHeld.2.2.2.1)).trans hHeld.2.2.2.1, (Below.cell hd2 (cell_lt hHeld.2.2.2.2)).trans hHeld.2.2.2.2⟩ (fun hH2 => ?_)
            clear hK K hHeld
            have hHeld := hH2
            clear hH2
            try simp only [Act.put, List.setIfInBounds_toArray, List.set_cons_zero, List.set_cons_succ, List.getElem_toArray, List.getElem_cons_succ, List.getElem_cons_zero]
            refine wpAnyH_take (i := 9) (v := ?v12) rfl (by kernel_rfl) (by kernel_rfl) (by kernel_rfl) (fun _ _ _ h => h) (Or.inl ⟨by rfl, ?hy12⟩) hHeld ?rest12
            case hy12 => (intro W hSw; (try dsimp only at hSw); go_simp) <;> with_reducible rfl
            try simp only [Act.put, List.setIfInBounds_toArray, List.set_cons_zero, List.set_cons_succ, List.getElem_toArray, List.getElem_cons_succ, List.getElem_cons_zero]
            refine wpAnyH_take (i := 10) (v := ?v13) rfl (by kernel_rfl) (by kernel_rfl) (by kernel_rfl) (fun _ _ _ h => h) (Or.inl ⟨by rfl, ?hy13⟩) hHeld ?rest13
            case hy13 => (intro W hSw; (try dsimp only at hSw); go_simp) <;> with_reducible rfl
            try simp only [Act.put, List.setIfInBounds_toArray, List.set_cons_zero, List.set_cons_succ, List.getElem_toArray, List.getElem_cons_succ, List.getElem_cons_zero]
            refine wpAnyH_ready (rs := [13, 15]) (by kernel_rfl) (by simp) ?_
            refine AllReadyH.cons rfl (fun K hK => ?_) (AllReadyH.cons rfl (fun K hK => ?_) AllReadyH.nil)
            · go_simp
              refine (l1Num_any _ (by omega) (by omega) _).mono ?_
              rintro e wd3 ⟨rfl, hd3⟩
              go_wp2_with fail
              refine hK.out _ _ ⟨blw hHeld.1 hd3, (Below.cell hd3 (cell_lt hHeld.2.1)).trans hHeld.2.1, (Below.cell hd3 (cell_lt hHeld.2.2.1)).trans hHeld.2.2.1, (Below.cell hd3 (cell_lt hHeld.2.2.2.1)).trans hHeld.2.2.2.1, (Below.cell hd3 (cell_lt hHeld.2.2.2.2)).trans hHeld.2.2.2.2⟩ (fun hH2 => ?_)
              clear hK K hHeld
              have hHeld := hH2
              clear hH2
              try simp only [Act.put, List.setIfInBounds_toArray, List.set_cons_zero, List.set_cons_succ, List.getElem_toArray, List.getElem_cons_succ, List.getElem_cons_zero]
              refine wpAnyH_take (i := 14) (v := ?v14) rfl (by kernel_rfl) (by kernel_rfl) (by kernel_rfl) (fun _ _ _ h => h) (Or.inl ⟨by rfl, ?hy14⟩) hHeld ?rest14
              case hy14 => (intro W hSw; (try dsimp only at hSw); go_simp) <;> with_reducible rfl
              try simp only [Act.put, List.setIfInBounds_toArray, List.set_cons_zero, List.set_cons_succ, List.getElem_toArray, List.getElem_cons_succ, List.getElem_cons_zero]
              refine wpAnyH_ready (rs := [15]) (by kernel_rfl) (by simp) ?_
              refine AllReadyH.cons rfl (fun K hK => ?_) AllReadyH.nil
              go_simp
              refine hK.out _ _ (by first | exact ⟨blw hHeld.1 ((Below.refl _ _).alloc (Nat.le_refl _) _), (Below.cell ((Below.refl _ _).alloc (Nat.le_refl _) _) (cell_lt hHeld.2.1)).trans hHeld.2.1, (Below.cell ((Below.refl _ _).alloc (Nat.le_refl _) _) (cell_lt hHeld.2.2.1)).trans hHeld.2.2.1, (Below.cell ((Below.refl _ _).alloc (Nat.le_refl _) _) (cell_lt hHeld.2.2.2.1)).trans hHeld.2.2.2.1, (Below.cell ((Below.refl _ _).alloc (Nat.le_refl _) _) (cell_lt hHeld.2.2.2.2)).trans hHeld.2.2.2.2⟩ | exact ⟨blw hHeld.1 (((Below.refl _ _).alloc (Nat.le_refl _) _).drew), (Below.cell (((Below.refl _ _).alloc (Nat.le_refl _) _).drew) (cell_lt hHeld.2.1)).trans hHeld.2.1, (Below.cell (((Below.refl _ _).alloc (Nat.le_refl _) _).drew) (cell_lt hHeld.2.2.1)).trans hHeld.2.2.1, (Below.cell (((Below.refl _ _).alloc (Nat.le_refl _) _).drew) (cell_lt hHeld.2.2.2.1)).trans hHeld.2.2.2.1, (Below.cell (((Below.refl _ _).alloc (Nat.le_refl _) _).drew) (cell_lt hHeld.2.2.2.2)).trans hHeld.2.2.2.2⟩) (fun hH2 => ?_)
              clear hK K hHeld
              have hHeld := hH2
              clear hH2
              refine wpAnyH_turnAt (S2 := fun W => Below w.heap.size w W ∧ W.cell? ⟨wr.heap.size, 0, none⟩ = some (.int .i64 l[k].s) ∧ W.cell? ⟨wr.heap.size, 1, none⟩ = some (.int .i64 l[k].e) ∧ W.cell? ⟨wr.heap.size, 2, none⟩ = some (.int .i64 l[k].d) ∧ W.cell? ⟨wr.heap.size, 3, none⟩ = some (.int .i64 l[k].a) ∧ W.cell? ⟨wd3.heap.size, (l[k].a).toNat, none⟩ = some (.string (actT l[k].a))) (fun W h => ⟨h.1, h.2.1, h.2.2.1, h.2.2.2.1, h.2.2.2.2.1⟩) ⟨hHeld.1, hHeld.2.1, hHeld.2.2.1, hHeld.2.2.2.1, hHeld.2.2.2.2, ((Blk.new wd3 9 #[.string ⟨#[]⟩, .string ⟨#[107]⟩, .string ⟨#[116]⟩, .string ⟨#[100]⟩]).cell _).trans hidx⟩ (fun hH2 => ?_)
              clear hHeld
              have hHeld := hH2
              clear hH2
              try simp only [Act.put, List.setIfInBounds_toArray, List.set_cons_zero, List.set_cons_succ, List.getElem_toArray, List.getElem_cons_succ, List.getElem_cons_zero]
              refine wpAnyH_take (i := 18) (v := ?v15) rfl (by kernel_rfl) (by kernel_rfl) (by kernel_rfl) (fun _ _ _ h => h) (Or.inl ⟨by rfl, ?hy15⟩) hHeld ?rest15
              case hy15 => (intro W hSw; (try dsimp only at hSw); go_simp) <;> with_reducible rfl
              try simp only [Act.put, List.setIfInBounds_toArray, List.set_cons_zero, List.set_cons_succ, List.getElem_toArray, List.getElem_cons_succ, List.getElem_cons_zero]
              refine wpAnyH_take (i := 19) (v := ?v16) rfl (by kernel_rfl) (by kernel_rfl) (by kernel_rfl) (fun _ _ _ h => h) (Or.inl ⟨by rfl, ?hy16⟩) hHeld ?rest16
              case hy16 => (intro W hSw; (try dsimp only at hSw); go_simp) <;> with_reducible rfl
              try simp only [Act.put, List.setIfInBounds_toArray, List.set_cons_zero, List.set_cons_succ, List.getElem_toArray, List.getElem_cons_succ, List.getElem_cons_zero]
              refine wpAnyH_take (i := 20) (v := ?v17) rfl (by kernel_rfl) (by kernel_rfl) (by kernel_rfl) (fun _ _ _ h => h) (Or.inl ⟨by rfl, ?hy17⟩) hHeld ?rest17
              case hy17 => (intro W hSw; (try dsimp only at hSw); go_simp) <;> with_reducible rfl
              try simp only [Act.put, List.setIfInBounds_toArray, List.set_cons_zero, List.set_cons_succ, List.getElem_toArray, List.getElem_cons_succ, List.getElem_cons_zero]
              refine wpAnyH_take (i := 21) (v := ?v18) rfl (by kernel_rfl) (by kernel_rfl) (by kernel_rfl) (fun _ _ _ h => h) (Or.inl ⟨by rfl, ?hy18⟩) hHeld ?rest18
              case hy18 => (intro W hSw; (try dsimp only at hSw); go_simp) <;> with_reducible rfl
              try simp only [Act.put, List.setIfInBounds_toArray, List.set_cons_zero, List.set_cons_succ, List.getElem_toArray, List.getElem_cons_succ, List.getElem_cons_zero]
              refine wpAnyH_done (by kernel_rfl) ?_ _
              refine NoPanic.normal ?_
              have hBi := hHeld.1
              go_wp2_with fail
              go_roundw
              case rel => exact ⟨k + 1, by omega, by go_num, by rw [Hs.out]; simp only [rulT, ByteArray.append_assoc], hBi⟩
              case measure => simp [intOf]; omega
            · go_simp
              refine hK.out _ _ (by first | exact ⟨blw hHeld.1 ((Below.refl _ _).alloc (Nat.le_refl _) _), (Below.cell ((Below.refl _ _).alloc (Nat.le_refl _) _) (cell_lt hHeld.2.1)).trans hHeld.2.1, (Below.cell ((Below.refl _ _).alloc (Nat.le_refl _) _) (cell_lt hHeld.2.2.1)).trans hHeld.2.2.1, (Below.cell ((Below.refl _ _).alloc (Nat.le_refl _) _) (cell_lt hHeld.2.2.2.1)).trans hHeld.2.2.2.1, (Below.cell ((Below.refl _ _).alloc (Nat.le_refl _) _) (cell_lt hHeld.2.2.2.2)).trans hHeld.2.2.2.2⟩ | exact ⟨blw hHeld.1 (((Below.refl _ _).alloc (Nat.le_refl _) _).drew), (Below.cell (((Below.refl _ _).alloc (Nat.le_refl _) _).drew) (cell_lt hHeld.2.1)).trans hHeld.2.1, (Below.cell (((Below.refl _ _).alloc (Nat.le_refl _) _).drew) (cell_lt hHeld.2.2.1)).trans hHeld.2.2.1, (Below.cell (((Below.refl _ _).alloc (Nat.le_refl _) _).drew) (cell_lt hHeld.2.2.2.1)).trans hHeld.2.2.2.1, (Below.cell (((Below.refl _ _).alloc (Nat.le_refl _) _).drew) (cell_lt hHeld.2.2.2.2)).trans hHeld.2.2.2.2⟩) (fun hH2 => ?_)
              clear hK K hHeld
              have hHeld := hH2
              clear hH2
              refine wpAnyH_turnAt (S2 := fun W => Below w.heap.size w W ∧ W.cell? ⟨wr.heap.size, 0, none⟩ = some (.int .i64 l[k].s) ∧ W.cell? ⟨wr.heap.size, 1, none⟩ = some (.int .i64 l[k].e) ∧ W.cell? ⟨wr.heap.size, 2, none⟩ = some (.int .i64 l[k].d) ∧ W.cell? ⟨wr.heap.size, 3, none⟩ = some (.int .i64 l[k].a) ∧ W.cell? ⟨wd2.heap.size, (l[k].a).toNat, none⟩ = some (.string (actT l[k].a))) (fun W h => ⟨h.1, h.2.1, h.2.2.1, h.2.2.2.1, h.2.2.2.2.1⟩) ⟨hHeld.1, hHeld.2.1, hHeld.2.2.1, hHeld.2.2.2.1, hHeld.2.2.2.2, ((Blk.new wd2 9 #[.string ⟨#[]⟩, .string ⟨#[107]⟩, .string ⟨#[116]⟩, .string ⟨#[100]⟩]).cell _).trans hidx⟩ (fun hH2 => ?_)
              clear hHeld
              have hHeld := hH2
              clear hH2
              try simp only [Act.put, List.setIfInBounds_toArray, List.set_cons_zero, List.set_cons_succ, List.getElem_toArray, List.getElem_cons_succ, List.getElem_cons_zero]
              refine wpAnyH_take (i := 18) (v := ?v19) rfl (by kernel_rfl) (by kernel_rfl) (by kernel_rfl) (fun _ _ _ h => h) (Or.inl ⟨by rfl, ?hy19⟩) hHeld ?rest19
              case hy19 => (intro W hSw; (try dsimp only at hSw); go_simp) <;> with_reducible rfl
              try simp only [Act.put, List.setIfInBounds_toArray, List.set_cons_zero, List.set_cons_succ, List.getElem_toArray, List.getElem_cons_succ, List.getElem_cons_zero]
              refine wpAnyH_take (i := 19) (v := ?v20) rfl (by kernel_rfl) (by kernel_rfl) (by kernel_rfl) (fun _ _ _ h => h) (Or.inl ⟨by rfl, ?hy20⟩) hHeld ?rest20
              case hy20 => (intro W hSw; (try dsimp only at hSw); go_simp) <;> with_reducible rfl
              try simp only [Act.put, List.setIfInBounds_toArray, List.set_cons_zero, List.set_cons_succ, List.getElem_toArray, List.getElem_cons_succ, List.getElem_cons_zero]
              refine wpAnyH_ready (rs := [13]) (by kernel_rfl) (by simp) ?_
              refine AllReadyH.cons rfl (fun K hK => ?_) AllReadyH.nil
              go_simp
              refine (l1Num_any _ (by omega) (by omega) _).mono ?_
              rintro e wd3 ⟨rfl, hd3⟩
              go_wp2_with fail
              refine hK.out _ _ ⟨blw hHeld.1 hd3, (Below.cell hd3 (cell_lt hHeld.2.1)).trans hHeld.2.1, (Below.cell hd3 (cell_lt hHeld.2.2.1)).trans hHeld.2.2.1, (Below.cell hd3 (cell_lt hHeld.2.2.2.1)).trans hHeld.2.2.2.1, (Below.cell hd3 (cell_lt hHeld.2.2.2.2.1)).trans hHeld.2.2.2.2.1, (Below.cell hd3 (cell_lt hHeld.2.2.2.2.2)).trans hHeld.2.2.2.2.2⟩ (fun hH2 => ?_)
              clear hK K hHeld
              have hHeld := hH2
              clear hH2
              try simp only [Act.put, List.setIfInBounds_toArray, List.set_cons_zero, List.set_cons_succ, List.getElem_toArray, List.getElem_cons_succ, List.getElem_cons_zero]
              refine wpAnyH_take (i := 14) (v := ?v21) rfl (by kernel_rfl) (by kernel_rfl) (by kernel_rfl) (fun _ _ _ h => h) (Or.inl ⟨by rfl, ?hy21⟩) hHeld ?rest21
              case hy21 => (intro W hSw; (try dsimp only at hSw); go_simp) <;> with_reducible rfl
              try simp only [Act.put, List.setIfInBounds_toArray, List.set_cons_zero, List.set_cons_succ, List.getElem_toArray, List.getElem_cons_succ, List.getElem_cons_zero]
              refine wpAnyH_take (i := 20) (v := ?v22) rfl (by kernel_rfl) (by kernel_rfl) (by kernel_rfl) (fun _ _ _ h => h) (Or.inl ⟨by rfl, ?hy22⟩) hHeld ?rest22
              case hy22 => (intro W hSw; (try dsimp only at hSw); go_simp) <;> with_reducible rfl
              try simp only [Act.put, List.setIfInBounds_toArray, List.set_cons_zero, List.set_cons_succ, List.getElem_toArray, List.getElem_cons_succ, List.getElem_cons_zero]
              refine wpAnyH_take (i := 21) (v := ?v23) rfl (by kernel_rfl) (by kernel_rfl) (by kernel_rfl) (fun _ _ _ h => h) (Or.inl ⟨by rfl, ?hy23⟩) hHeld ?rest23
              case hy23 => (intro W hSw; (try dsimp only at hSw); go_simp) <;> with_reducible rfl
              try simp only [Act.put, List.setIfInBounds_toArray, List.set_cons_zero, List.set_cons_succ, List.getElem_toArray, List.getElem_cons_succ, List.getElem_cons_zero]
              refine wpAnyH_done (by kernel_rfl) ?_ _
              refine NoPanic.normal ?_
              have hBi := hHeld.1
              go_wp2_with fail
              go_roundw
              case rel => exact ⟨k + 1, by omega, by go_num, by rw [Hs.out]; simp only [rulT, ByteArray.append_assoc], hBi⟩
              case measure => simp [intOf]; omega
          · go_simp
            refine hK.out _ _ (by first | exact ⟨blw hHeld.1 ((Below.refl _ _).alloc (Nat.le_refl _) _), (Below.cell ((Below.refl _ _).alloc (Nat.le_refl _) _) (cell_lt hHeld.2.1)).trans hHeld.2.1, (Below.cell ((Below.refl _ _).alloc (Nat.le_refl _) _) (cell_lt hHeld.2.2.1)).trans hHeld.2.2.1, (Below.cell ((Below.refl _ _).alloc (Nat.le_refl _) _) (cell_lt hHeld.2.2.2.1)).trans hHeld.2.2.2.1, (Below.cell ((Below.refl _ _).alloc (Nat.le_refl _) _) (cell_lt hHeld.2.2.2.2)).trans hHeld.2.2.2.2⟩ | exact ⟨blw hHeld.1 (((Below.refl _ _).alloc (Nat.le_refl _) _).drew), (Below.cell (((Below.refl _ _).alloc (Nat.le_refl _) _).drew) (cell_lt hHeld.2.1)).trans hHeld.2.1, (Below.cell (((Below.refl _ _).alloc (Nat.le_refl _) _).drew) (cell_lt hHeld.2.2.1)).trans hHeld.2.2.1, (Below.cell (((Below.refl _ _).alloc (Nat.le_refl _) _).drew) (cell_lt hHeld.2.2.2.1)).trans hHeld.2.2.2.1, (Below.cell (((Below.refl _ _).alloc (Nat.le_refl _) _).drew) (cell_lt hHeld.2.2.2.2)).trans hHeld.2.2.2.2⟩) (fun hH2 => ?_)
            clear hK K hHeld
            have hHeld := hH2
            clear hH2
            refine wpAnyH_turnAt (S2 := fun W => Below w.heap.size w W ∧ W.cell? ⟨wr.heap.size, 0, none⟩ = some (.int .i64 l[k].s) ∧ W.cell? ⟨wr.heap.size, 1, none⟩ = some (.int .i64 l[k].e) ∧ W.cell? ⟨wr.heap.size, 2, none⟩ = some (.int .i64 l[k].d) ∧ W.cell? ⟨wr.heap.size, 3, none⟩ = some (.int .i64 l[k].a) ∧ W.cell? ⟨wd1.heap.size, (l[k].a).toNat, none⟩ = some (.string (actT l[k].a))) (fun W h => ⟨h.1, h.2.1, h.2.2.1, h.2.2.2.1, h.2.2.2.2.1⟩) ⟨hHeld.1, hHeld.2.1, hHeld.2.2.1, hHeld.2.2.2.1, hHeld.2.2.2.2, ((Blk.new wd1 9 #[.string ⟨#[]⟩, .string ⟨#[107]⟩, .string ⟨#[116]⟩, .string ⟨#[100]⟩]).cell _).trans hidx⟩ (fun hH2 => ?_)
            clear hHeld
            have hHeld := hH2
            clear hH2
            try simp only [Act.put, List.setIfInBounds_toArray, List.set_cons_zero, List.set_cons_succ, List.getElem_toArray, List.getElem_cons_succ, List.getElem_cons_zero]
            refine wpAnyH_take (i := 18) (v := ?v24) rfl (by kernel_rfl) (by kernel_rfl) (by kernel_rfl) (fun _ _ _ h => h) (Or.inl ⟨by rfl, ?hy24⟩) hHeld ?rest24
            case hy24 => (intro W hSw; (try dsimp only at hSw); go_simp) <;> with_reducible rfl
            try simp only [Act.put, List.setIfInBounds_toArray, List.set_cons_zero, List.set_cons_succ, List.getElem_toArray, List.getElem_cons_succ, List.getElem_cons_zero]
            refine wpAnyH_take (i := 19) (v := ?v25) rfl (by kernel_rfl) (by kernel_rfl) (by kernel_rfl) (fun _ _ _ h => h) (Or.inl ⟨by rfl, ?hy25⟩) hHeld ?rest25
            case hy25 => (intro W hSw; (try dsimp only at hSw); go_simp) <;> with_reducible rfl
            try simp only [Act.put, List.setIfInBounds_toArray, List.set_cons_zero, List.set_cons_succ, List.getElem_toArray, List.getElem_cons_succ, List.getElem_cons_zero]
            refine wpAnyH_ready (rs := [8]) (by kernel_rfl) (by simp) ?_
            refine AllReadyH.cons rfl (fun K hK => ?_) AllReadyH.nil
            go_simp
            refine (l1Num_any _ (by omega) (by omega) _).mono ?_
            rintro e wd2 ⟨rfl, hd2⟩
            go_wp2_with fail
            refine hK.out _ _ ⟨blw hHeld.1 hd2, (Below.cell hd2 (cell_lt hHeld.2.1)).trans hHeld.2.1, (Below.cell hd2 (cell_lt hHeld.2.2.1)).trans hHeld.2.2.1, (Below.cell hd2 (cell_lt hHeld.2.2.2.1)).trans hHeld.2.2.2.1, (Below.cell hd2 (cell_lt hHeld.2.2.2.2.1)).trans hHeld.2.2.2.2.1, (Below.cell hd2 (cell_lt hHeld.2.2.2.2.2)).trans hHeld.2.2.2.2.2⟩ (fun hH2 => ?_)
            clear hK K hHeld
            have hHeld := hH2
            clear hH2
            try simp only [Act.put, List.setIfInBounds_toArray, List.set_cons_zero, List.set_cons_succ, List.getElem_toArray, List.getElem_cons_succ, List.getElem_cons_zero]
            refine wpAnyH_take (i := 9) (v := ?v26) rfl (by kernel_rfl) (by kernel_rfl) (by kernel_rfl) (fun _ _ _ h => h) (Or.inl ⟨by rfl, ?hy26⟩) hHeld ?rest26
            case hy26 => (intro W hSw; (try dsimp only at hSw); go_simp) <;> with_reducible rfl
            try simp only [Act.put, List.setIfInBounds_toArray, List.set_cons_zero, List.set_cons_succ, List.getElem_toArray, List.getElem_cons_succ, List.getElem_cons_zero]
            refine wpAnyH_take (i := 10) (v := ?v27) rfl (by kernel_rfl) (by kernel_rfl) (by kernel_rfl) (fun _ _ _ h => h) (Or.inl ⟨by rfl, ?hy27⟩) hHeld ?rest27
            case hy27 => (intro W hSw; (try dsimp only at hSw); go_simp) <;> with_reducible rfl
            try simp only [Act.put, List.setIfInBounds_toArray, List.set_cons_zero, List.set_cons_succ, List.getElem_toArray, List.getElem_cons_succ, List.getElem_cons_zero]
            refine wpAnyH_ready (rs := [13]) (by kernel_rfl) (by simp) ?_
            refine AllReadyH.cons rfl (fun K hK => ?_) AllReadyH.nil
            go_simp
            refine (l1Num_any _ (by omega) (by omega) _).mono ?_
            rintro e wd3 ⟨rfl, hd3⟩
            go_wp2_with fail
            refine hK.out _ _ ⟨blw hHeld.1 hd3, (Below.cell hd3 (cell_lt hHeld.2.1)).trans hHeld.2.1, (Below.cell hd3 (cell_lt hHeld.2.2.1)).trans hHeld.2.2.1, (Below.cell hd3 (cell_lt hHeld.2.2.2.1)).trans hHeld.2.2.2.1, (Below.cell hd3 (cell_lt hHeld.2.2.2.2.1)).trans hHeld.2.2.2.2.1, (Below.cell hd3 (cell_lt hHeld.2.2.2.2.2)).trans hHeld.2.2.2.2.2⟩ (fun hH2 => ?_)
            clear hK K hHeld
            have hHeld := hH2
            clear hH2
            try simp only [Act.put, List.setIfInBounds_toArray, List.set_cons_zero, List.set_cons_succ, List.getElem_toArray, List.getElem_cons_succ, List.getElem_cons_zero]
            refine wpAnyH_take (i := 14) (v := ?v28) rfl (by kernel_rfl) (by kernel_rfl) (by kernel_rfl) (fun _ _ _ h => h) (Or.inl ⟨by rfl, ?hy28⟩) hHeld ?rest28
            case hy28 => (intro W hSw; (try dsimp only at hSw); go_simp) <;> with_reducible rfl
            try simp only [Act.put, List.setIfInBounds_toArray, List.set_cons_zero, List.set_cons_succ, List.getElem_toArray, List.getElem_cons_succ, List.getElem_cons_zero]
            refine wpAnyH_take (i := 20) (v := ?v29) rfl (by kernel_rfl) (by kernel_rfl) (by kernel_rfl) (fun _ _ _ h => h) (Or.inl ⟨by rfl, ?hy29⟩) hHeld ?rest29
            case hy29 => (intro W hSw; (try dsimp only at hSw); go_simp) <;> with_reducible rfl
            try simp only [Act.put, List.setIfInBounds_toArray, List.set_cons_zero, List.set_cons_succ, List.getElem_toArray, List.getElem_cons_succ, List.getElem_cons_zero]
            refine wpAnyH_take (i := 21) (v := ?v30) rfl (by kernel_rfl) (by kernel_rfl) (by kernel_rfl) (fun _ _ _ h => h) (Or.inl ⟨by rfl, ?hy30⟩) hHeld ?rest30
            case hy30 => (intro W hSw; (try dsimp only at hSw); go_simp) <;> with_reducible rfl
            try simp only [Act.put, List.setIfInBounds_toArray, List.set_cons_zero, List.set_cons_succ, List.getElem_toArray, List.getElem_cons_succ, List.getElem_cons_zero]
            refine wpAnyH_done (by kernel_rfl) ?_ _
            refine NoPanic.normal ?_
            have hBi := hHeld.1
            go_wp2_with fail
            go_roundw
            case rel => exact ⟨k + 1, by omega, by go_num, by rw [Hs.out]; simp only [rulT, ByteArray.append_assoc], hBi⟩
            case measure => simp [intOf]; omega
        · go_simp
          refine hK.out _ _ (by first | exact ⟨blw hHeld.1 ((Below.refl _ _).alloc (Nat.le_refl _) _), (Below.cell ((Below.refl _ _).alloc (Nat.le_refl _) _) (cell_lt hHeld.2.1)).trans hHeld.2.1, (Below.cell ((Below.refl _ _).alloc (Nat.le_refl _) _) (cell_lt hHeld.2.2.1)).trans hHeld.2.2.1, (Below.cell ((Below.refl _ _).alloc (Nat.le_refl _) _) (cell_lt hHeld.2.2.2.1)).trans hHeld.2.2.2.1, (Below.cell ((Below.refl _ _).alloc (Nat.le_refl _) _) (cell_lt hHeld.2.2.2.2)).trans hHeld.2.2.2.2⟩ | exact ⟨blw hHeld.1 (((Below.refl _ _).alloc (Nat.le_refl _) _).drew), (Below.cell (((Below.refl _ _).alloc (Nat.le_refl _) _).drew) (cell_lt hHeld.2.1)).trans hHeld.2.1, (Below.cell (((Below.refl _ _).alloc (Nat.le_refl _) _).drew) (cell_lt hHeld.2.2.1)).trans hHeld.2.2.1, (Below.cell (((Below.refl _ _).alloc (Nat.le_refl _) _).drew) (cell_lt hHeld.2.2.2.1)).trans hHeld.2.2.2.1, (Below.cell (((Below.refl _ _).alloc (Nat.le_refl _) _).drew) (cell_lt hHeld.2.2.2.2)).trans hHeld.2.2.2.2⟩) (fun hH2 => ?_)
          clear hK K hHeld
          have hHeld := hH2
          clear hH2
          refine wpAnyH_turnAt (S2 := fun W => Below w.heap.size w W ∧ W.cell? ⟨wr.heap.size, 0, none⟩ = some (.int .i64 l[k].s) ∧ W.cell? ⟨wr.heap.size, 1, none⟩ = some (.int .i64 l[k].e) ∧ W.cell? ⟨wr.heap.size, 2, none⟩ = some (.int .i64 l[k].d) ∧ W.cell? ⟨wr.heap.size, 3, none⟩ = some (.int .i64 l[k].a) ∧ W.cell? ⟨wB.heap.size, (l[k].a).toNat, none⟩ = some (.string (actT l[k].a))) (fun W h => ⟨h.1, h.2.1, h.2.2.1, h.2.2.2.1, h.2.2.2.2.1⟩) ⟨hHeld.1, hHeld.2.1, hHeld.2.2.1, hHeld.2.2.2.1, hHeld.2.2.2.2, ((Blk.drew (Blk.new wB 9 #[.string ⟨#[]⟩, .string ⟨#[107]⟩, .string ⟨#[116]⟩, .string ⟨#[100]⟩])).cell _).trans hidx⟩ (fun hH2 => ?_)
          clear hHeld
          have hHeld := hH2
          clear hH2
          try simp only [Act.put, List.setIfInBounds_toArray, List.set_cons_zero, List.set_cons_succ, List.getElem_toArray, List.getElem_cons_succ, List.getElem_cons_zero]
          refine wpAnyH_take (i := 18) (v := ?v31) rfl (by kernel_rfl) (by kernel_rfl) (by kernel_rfl) (fun _ _ _ h => h) (Or.inl ⟨by rfl, ?hy31⟩) hHeld ?rest31
          case hy31 => (intro W hSw; (try dsimp only at hSw); go_simp) <;> with_reducible rfl
          try simp only [Act.put, List.setIfInBounds_toArray, List.set_cons_zero, List.set_cons_succ, List.getElem_toArray, List.getElem_cons_succ, List.getElem_cons_zero]
          refine wpAnyH_take (i := 19) (v := ?v32) rfl (by kernel_rfl) (by kernel_rfl) (by kernel_rfl) (fun _ _ _ h => h) (Or.inl ⟨by rfl, ?hy32⟩) hHeld ?rest32
          case hy32 => (intro W hSw; (try dsimp only at hSw); go_simp) <;> with_reducible rfl
          try simp only [Act.put, List.setIfInBounds_toArray, List.set_cons_zero, List.set_cons_succ, List.getElem_toArray, List.getElem_cons_succ, List.getElem_cons_zero]
          refine wpAnyH_ready (rs := [3]) (by kernel_rfl) (by simp) ?_
          refine AllReadyH.cons rfl (fun K hK => ?_) AllReadyH.nil
          go_simp
          refine (l1Num_any _ (by omega) (by omega) _).mono ?_
          rintro e wd1 ⟨rfl, hd1⟩
          go_wp2_with fail
          refine hK.out _ _ ⟨blw hHeld.1 hd1, (Below.cell hd1 (cell_lt hHeld.2.1)).trans hHeld.2.1, (Below.cell hd1 (cell_lt hHeld.2.2.1)).trans hHeld.2.2.1, (Below.cell hd1 (cell_lt hHeld.2.2.2.1)).trans hHeld.2.2.2.1, (Below.cell hd1 (cell_lt hHeld.2.2.2.2.1)).trans hHeld.2.2.2.2.1, (Below.cell hd1 (cell_lt hHeld.2.2.2.2.2)).trans hHeld.2.2.2.2.2⟩ (fun hH2 => ?_)
          clear hK K hHeld
          have hHeld := hH2
          clear hH2
          try simp only [Act.put, List.setIfInBounds_toArray, List.set_cons_zero, List.set_cons_succ, List.getElem_toArray, List.getElem_cons_succ, List.getElem_cons_zero]
          refine wpAnyH_take (i := 4) (v := ?v33) rfl (by kernel_rfl) (by kernel_rfl) (by kernel_rfl) (fun _ _ _ h => h) (Or.inl ⟨by rfl, ?hy33⟩) hHeld ?rest33
          case hy33 => (intro W hSw; (try dsimp only at hSw); go_simp) <;> with_reducible rfl
          try simp only [Act.put, List.setIfInBounds_toArray, List.set_cons_zero, List.set_cons_succ, List.getElem_toArray, List.getElem_cons_succ, List.getElem_cons_zero]
          refine wpAnyH_take (i := 5) (v := ?v34) rfl (by kernel_rfl) (by kernel_rfl) (by kernel_rfl) (fun _ _ _ h => h) (Or.inl ⟨by rfl, ?hy34⟩) hHeld ?rest34
          case hy34 => (intro W hSw; (try dsimp only at hSw); go_simp) <;> with_reducible rfl
          try simp only [Act.put, List.setIfInBounds_toArray, List.set_cons_zero, List.set_cons_succ, List.getElem_toArray, List.getElem_cons_succ, List.getElem_cons_zero]
          refine wpAnyH_ready (rs := [8]) (by kernel_rfl) (by simp) ?_
          refine AllReadyH.cons rfl (fun K hK => ?_) AllReadyH.nil
          go_simp
          refine (l1Num_any _ (by omega) (by omega) _).mono ?_
          rintro e wd2 ⟨rfl, hd2⟩
          go_wp2_with fail
          refine hK.out _ _ ⟨blw hHeld.1 hd2, (Below.cell hd2 (cell_lt hHeld.2.1)).trans hHeld.2.1, (Below.cell hd2 (cell_lt hHeld.2.2.1)).trans hHeld.2.2.1, (Below.cell hd2 (cell_lt hHeld.2.2.2.1)).trans hHeld.2.2.2.1, (Below.cell hd2 (cell_lt hHeld.2.2.2.2.1)).trans hHeld.2.2.2.2.1, (Below.cell hd2 (cell_lt hHeld.2.2.2.2.2)).trans hHeld.2.2.2.2.2⟩ (fun hH2 => ?_)
          clear hK K hHeld
          have hHeld := hH2
          clear hH2
          try simp only [Act.put, List.setIfInBounds_toArray, List.set_cons_zero, List.set_cons_succ, List.getElem_toArray, List.getElem_cons_succ, List.getElem_cons_zero]
          refine wpAnyH_take (i := 9) (v := ?v35) rfl (by kernel_rfl) (by kernel_rfl) (by kernel_rfl) (fun _ _ _ h => h) (Or.inl ⟨by rfl, ?hy35⟩) hHeld ?rest35
          case hy35 => (intro W hSw; (try dsimp only at hSw); go_simp) <;> with_reducible rfl
          try simp only [Act.put, List.setIfInBounds_toArray, List.set_cons_zero, List.set_cons_succ, List.getElem_toArray, List.getElem_cons_succ, List.getElem_cons_zero]
          refine wpAnyH_take (i := 10) (v := ?v36) rfl (by kernel_rfl) (by kernel_rfl) (by kernel_rfl) (fun _ _ _ h => h) (Or.inl ⟨by rfl, ?hy36⟩) hHeld ?rest36
          case hy36 => (intro W hSw; (try dsimp only at hSw); go_simp) <;> with_reducible rfl
          try simp only [Act.put, List.setIfInBounds_toArray, List.set_cons_zero, List.set_cons_succ, List.getElem_toArray, List.getElem_cons_succ, List.getElem_cons_zero]
          refine wpAnyH_ready (rs := [13]) (by kernel_rfl) (by simp) ?_
          refine AllReadyH.cons rfl (fun K hK => ?_) AllReadyH.nil
          go_simp
          refine (l1Num_any _ (by omega) (by omega) _).mono ?_
          rintro e wd3 ⟨rfl, hd3⟩
          go_wp2_with fail
          refine hK.out _ _ ⟨blw hHeld.1 hd3, (Below.cell hd3 (cell_lt hHeld.2.1)).trans hHeld.2.1, (Below.cell hd3 (cell_lt hHeld.2.2.1)).trans hHeld.2.2.1, (Below.cell hd3 (cell_lt hHeld.2.2.2.1)).trans hHeld.2.2.2.1, (Below.cell hd3 (cell_lt hHeld.2.2.2.2.1)).trans hHeld.2.2.2.2.1, (Below.cell hd3 (cell_lt hHeld.2.2.2.2.2)).trans hHeld.2.2.2.2.2⟩ (fun hH2 => ?_)
          clear hK K hHeld
          have hHeld := hH2
          clear hH2
          try simp only [Act.put, List.setIfInBounds_toArray, List.set_cons_zero, List.set_cons_succ, List.getElem_toArray, List.getElem_cons_succ, List.getElem_cons_zero]
          refine wpAnyH_take (i := 14) (v := ?v37) rfl (by kernel_rfl) (by kernel_rfl) (by kernel_rfl) (fun _ _ _ h => h) (Or.inl ⟨by rfl, ?hy37⟩) hHeld ?rest37
          case hy37 => (intro W hSw; (try dsimp only at hSw); go_simp) <;> with_reducible rfl
          try simp only [Act.put, List.setIfInBounds_toArray, List.set_cons_zero, List.set_cons_succ, List.getElem_toArray, List.getElem_cons_succ, List.getElem_cons_zero]
          refine wpAnyH_take (i := 20) (v := ?v38) rfl (by kernel_rfl) (by kernel_rfl) (by kernel_rfl) (fun _ _ _ h => h) (Or.inl ⟨by rfl, ?hy38⟩) hHeld ?rest38
          case hy38 => (intro W hSw; (try dsimp only at hSw); go_simp) <;> with_reducible rfl
          try simp only [Act.put, List.setIfInBounds_toArray, List.set_cons_zero, List.set_cons_succ, List.getElem_toArray, List.getElem_cons_succ, List.getElem_cons_zero]
          refine wpAnyH_take (i := 21) (v := ?v39) rfl (by kernel_rfl) (by kernel_rfl) (by kernel_rfl) (fun _ _ _ h => h) (Or.inl ⟨by rfl, ?hy39⟩) hHeld ?rest39
          case hy39 => (intro W hSw; (try dsimp only at hSw); go_simp) <;> with_reducible rfl
          try simp only [Act.put, List.setIfInBounds_toArray, List.set_cons_zero, List.set_cons_succ, List.getElem_toArray, List.getElem_cons_succ, List.getElem_cons_zero]
          refine wpAnyH_done (by kernel_rfl) ?_ _
          refine NoPanic.normal ?_
          have hBi := hHeld.1
          go_wp2_with fail
          go_roundw
          case rel => exact ⟨k + 1, by omega, by go_num, by rw [Hs.out]; simp only [rulT, ByteArray.append_assoc], hBi⟩
          case measure => simp [intOf]; omega
      · have hkp : 0 < k := by omega
        have hkg : (0 : Int) < (k : Int) := by omega
        have Hs := Lib.hid (schK_succ hkp hlt)
        have z1 := numB_len l[k].s (by omega) (by omega)
        have z2 := numB_len l[k].e (by omega) (by omega)
        have z3 := numB_len l[k].d (by omega) (by omega)
        have hidx : (#[.string ⟨#[]⟩, .string ⟨#[107]⟩, .string ⟨#[116]⟩, .string ⟨#[100]⟩] : Array Value)[((l[k].a).toNat)]? = some (.string (actT l[k].a)) := by
          obtain h | h | h : l[k].a = 1 ∨ l[k].a = 2 ∨ l[k].a = 3 := by omega
          · rw [h]; rfl
          · rw [h]; rfl
          · rw [h]; rfl
        have p0 : ¬ (9223372036854775807 < (schK l k).size + 1) := by (try simp only [litR1, litR2, litR3, actT_size]); omega
        have o1 : (schK l k).size + 1 ≤ 9223372036854775807 := by (try simp only [litR1, litR2, litR3, actT_size]); omega
        have p1 : ¬ (9223372036854775807 < (schK l k).size + 1 + (numB l[k].s).size) := by (try simp only [litR1, litR2, litR3, actT_size]); omega
        have o2 : (schK l k).size + 1 + (numB l[k].s).size ≤ 9223372036854775807 := by (try simp only [litR1, litR2, litR3, actT_size]); omega
        have p2 : ¬ (9223372036854775807 < (schK l k).size + 1 + (numB l[k].s).size + 1) := by (try simp only [litR1, litR2, litR3, actT_size]); omega
        have o3 : (schK l k).size + 1 + (numB l[k].s).size + 1 ≤ 9223372036854775807 := by (try simp only [litR1, litR2, litR3, actT_size]); omega
        have p3 : ¬ (9223372036854775807 < (schK l k).size + 1 + (numB l[k].s).size + 1 + (numB l[k].e).size) := by (try simp only [litR1, litR2, litR3, actT_size]); omega
        have o4 : (schK l k).size + 1 + (numB l[k].s).size + 1 + (numB l[k].e).size ≤ 9223372036854775807 := by (try simp only [litR1, litR2, litR3, actT_size]); omega
        have p4 : ¬ (9223372036854775807 < (schK l k).size + 1 + (numB l[k].s).size + 1 + (numB l[k].e).size + 1) := by (try simp only [litR1, litR2, litR3, actT_size]); omega
        have o5 : (schK l k).size + 1 + (numB l[k].s).size + 1 + (numB l[k].e).size + 1 ≤ 9223372036854775807 := by (try simp only [litR1, litR2, litR3, actT_size]); omega
        have p5 : ¬ (9223372036854775807 < (schK l k).size + 1 + (numB l[k].s).size + 1 + (numB l[k].e).size + 1 + (numB l[k].d).size) := by (try simp only [litR1, litR2, litR3, actT_size]); omega
        have o6 : (schK l k).size + 1 + (numB l[k].s).size + 1 + (numB l[k].e).size + 1 + (numB l[k].d).size ≤ 9223372036854775807 := by (try simp only [litR1, litR2, litR3, actT_size]); omega
        have p6 : ¬ (9223372036854775807 < (schK l k).size + 1 + (numB l[k].s).size + 1 + (numB l[k].e).size + 1 + (numB l[k].d).size + (actT l[k].a).size) := by (try simp only [litR1, litR2, litR3, actT_size]); omega
        have o7 : (schK l k).size + 1 + (numB l[k].s).size + 1 + (numB l[k].e).size + 1 + (numB l[k].d).size + (actT l[k].a).size ≤ 9223372036854775807 := by (try simp only [litR1, litR2, litR3, actT_size]); omega
        have p7 : ¬ (9223372036854775807 < (schK l k).size + (ByteArray.mk #[32]).size) := by (try simp only [litR1, litR2, litR3, actT_size]); omega
        have o8 : (schK l k).size + (ByteArray.mk #[32]).size ≤ 9223372036854775807 := by (try simp only [litR1, litR2, litR3, actT_size]); omega
        have p8 : ¬ (9223372036854775807 < (schK l k).size + (ByteArray.mk #[32]).size + (numB l[k].s).size) := by (try simp only [litR1, litR2, litR3, actT_size]); omega
        have o9 : (schK l k).size + (ByteArray.mk #[32]).size + (numB l[k].s).size ≤ 9223372036854775807 := by (try simp only [litR1, litR2, litR3, actT_size]); omega
        have p9 : ¬ (9223372036854775807 < (schK l k).size + (ByteArray.mk #[32]).size + (numB l[k].s).size + (ByteArray.mk #[46]).size) := by (try simp only [litR1, litR2, litR3, actT_size]); omega
        have o10 : (schK l k).size + (ByteArray.mk #[32]).size + (numB l[k].s).size + (ByteArray.mk #[46]).size ≤ 9223372036854775807 := by (try simp only [litR1, litR2, litR3, actT_size]); omega
        have p10 : ¬ (9223372036854775807 < (schK l k).size + (ByteArray.mk #[32]).size + (numB l[k].s).size + (ByteArray.mk #[46]).size + (numB l[k].e).size) := by (try simp only [litR1, litR2, litR3, actT_size]); omega
        have o11 : (schK l k).size + (ByteArray.mk #[32]).size + (numB l[k].s).size + (ByteArray.mk #[46]).size + (numB l[k].e).size ≤ 9223372036854775807 := by (try simp only [litR1, litR2, litR3, actT_size]); omega
        have p11 : ¬ (9223372036854775807 < (schK l k).size + (ByteArray.mk #[32]).size + (numB l[k].s).size + (ByteArray.mk #[46]).size + (numB l[k].e).size + (ByteArray.mk #[43]).size) := by (try simp only [litR1, litR2, litR3, actT_size]); omega
        have o12 : (schK l k).size + (ByteArray.mk #[32]).size + (numB l[k].s).size + (ByteArray.mk #[46]).size + (numB l[k].e).size + (ByteArray.mk #[43]).size ≤ 9223372036854775807 := by (try simp only [litR1, litR2, litR3, actT_size]); omega
        have p12 : ¬ (9223372036854775807 < (schK l k).size + (ByteArray.mk #[32]).size + (numB l[k].s).size + (ByteArray.mk #[46]).size + (numB l[k].e).size + (ByteArray.mk #[43]).size + (numB l[k].d).size) := by (try simp only [litR1, litR2, litR3, actT_size]); omega
        have o13 : (schK l k).size + (ByteArray.mk #[32]).size + (numB l[k].s).size + (ByteArray.mk #[46]).size + (numB l[k].e).size + (ByteArray.mk #[43]).size + (numB l[k].d).size ≤ 9223372036854775807 := by (try simp only [litR1, litR2, litR3, actT_size]); omega
        have p13 : ¬ (9223372036854775807 < (schK l k).size + (ByteArray.mk #[32]).size + (numB l[k].s).size + (ByteArray.mk #[46]).size + (numB l[k].e).size + (ByteArray.mk #[43]).size + (numB l[k].d).size + (actT l[k].a).size) := by (try simp only [litR1, litR2, litR3, actT_size]); omega
        have o14 : (schK l k).size + (ByteArray.mk #[32]).size + (numB l[k].s).size + (ByteArray.mk #[46]).size + (numB l[k].e).size + (ByteArray.mk #[43]).size + (numB l[k].d).size + (actT l[k].a).size ≤ 9223372036854775807 := by (try simp only [litR1, litR2, litR3, actT_size]); omega
        have hxB : Blk (wr.alloc (.cells #[.int .i64 l[k].s, .int .i64 l[k].e, .int .i64 l[k].d, .int .i64 l[k].a] 58)) wr.heap.size 58 #[.int .i64 l[k].s, .int .i64 l[k].e, .int .i64 l[k].d, .int .i64 l[k].a] := Blk.new _ _ _
        have hBB := blw_alloc hb (.cells #[.int .i64 l[k].s, .int .i64 l[k].e, .int .i64 l[k].d, .int .i64 l[k].a] 58)
        have hq : b < wr.heap.size := by omega
        have h4a : l[k].a < 4 := by omega
        have h0a : 0 ≤ l[k].a := by omega
        go_wp2_with fail
        generalize (wr.alloc (.cells #[.int .i64 l[k].s, .int .i64 l[k].e, .int .i64 l[k].d, .int .i64 l[k].a] 58)) = wB at *
        refine wp_region_noPanic ?_
        refine wp_region_held_drew (S := fun W => Below w.heap.size w W ∧ W.cell? ⟨wr.heap.size, 0, none⟩ = some (.int .i64 l[k].s) ∧ W.cell? ⟨wr.heap.size, 1, none⟩ = some (.int .i64 l[k].e) ∧ W.cell? ⟨wr.heap.size, 2, none⟩ = some (.int .i64 l[k].d) ∧ W.cell? ⟨wr.heap.size, 3, none⟩ = some (.int .i64 l[k].a)) (by kernel_rfl) (keep4 (Below.refl _ _).drew ⟨hBB, hxB.cell 0, hxB.cell 1, hxB.cell 2, hxB.cell 3⟩) (fun hHeld => ?_)
        refine wpAnyH_take (i := 0) (v := ?v40) rfl (by kernel_rfl) (by kernel_rfl) (by kernel_rfl) (fun _ _ _ h => h) (Or.inl ⟨by rfl, ?hy40⟩) hHeld ?rest40
        case hy40 => (intro W hSw; (try dsimp only at hSw); go_simp) <;> with_reducible rfl
        try simp only [Act.put, List.setIfInBounds_toArray, List.set_cons_zero, List.set_cons_succ, List.getElem_toArray, List.getElem_cons_succ, List.getElem_cons_zero]
        refine wpAnyH_take (i := 1) (v := ?v41) rfl (by kernel_rfl) (by kernel_rfl) (by kernel_rfl) (fun _ _ _ h => h) (Or.inl ⟨by rfl, ?hy41⟩) hHeld ?rest41
        case hy41 => (intro W hSw; (try dsimp only at hSw); go_simp) <;> with_reducible rfl
        try simp only [Act.put, List.setIfInBounds_toArray, List.set_cons_zero, List.set_cons_succ, List.getElem_toArray, List.getElem_cons_succ, List.getElem_cons_zero]
        refine wpAnyH_take (i := 2) (v := ?v42) rfl (by kernel_rfl) (by kernel_rfl) (by kernel_rfl) (fun _ _ _ h => h) (Or.inl ⟨by rfl, ?hy42⟩) hHeld ?rest42
        case hy42 => (intro W hSw; (try dsimp only at hSw); go_simp) <;> with_reducible rfl
        try simp only [Act.put, List.setIfInBounds_toArray, List.set_cons_zero, List.set_cons_succ, List.getElem_toArray, List.getElem_cons_succ, List.getElem_cons_zero]
        refine wpAnyH_take (i := 6) (v := ?v43) rfl (by kernel_rfl) (by kernel_rfl) (by kernel_rfl) (fun _ _ _ h => h) (Or.inl ⟨by rfl, ?hy43⟩) hHeld ?rest43
        case hy43 => (intro W hSw; (try dsimp only at hSw); go_simp) <;> with_reducible rfl
        try simp only [Act.put, List.setIfInBounds_toArray, List.set_cons_zero, List.set_cons_succ, List.getElem_toArray, List.getElem_cons_succ, List.getElem_cons_zero]
        refine wpAnyH_take (i := 7) (v := ?v44) rfl (by kernel_rfl) (by kernel_rfl) (by kernel_rfl) (fun _ _ _ h => h) (Or.inl ⟨by rfl, ?hy44⟩) hHeld ?rest44
        case hy44 => (intro W hSw; (try dsimp only at hSw); go_simp) <;> with_reducible rfl
        try simp only [Act.put, List.setIfInBounds_toArray, List.set_cons_zero, List.set_cons_succ, List.getElem_toArray, List.getElem_cons_succ, List.getElem_cons_zero]
        refine wpAnyH_take (i := 11) (v := ?v45) rfl (by kernel_rfl) (by kernel_rfl) (by kernel_rfl) (fun _ _ _ h => h) (Or.inl ⟨by rfl, ?hy45⟩) hHeld ?rest45
        case hy45 => (intro W hSw; (try dsimp only at hSw); go_simp) <;> with_reducible rfl
        try simp only [Act.put, List.setIfInBounds_toArray, List.set_cons_zero, List.set_cons_succ, List.getElem_toArray, List.getElem_cons_succ, List.getElem_cons_zero]
        refine wpAnyH_take (i := 12) (v := ?v46) rfl (by kernel_rfl) (by kernel_rfl) (by kernel_rfl) (fun _ _ _ h => h) (Or.inl ⟨by rfl, ?hy46⟩) hHeld ?rest46
        case hy46 => (intro W hSw; (try dsimp only at hSw); go_simp) <;> with_reducible rfl
        try simp only [Act.put, List.setIfInBounds_toArray, List.set_cons_zero, List.set_cons_succ, List.getElem_toArray, List.getElem_cons_succ, List.getElem_cons_zero]
        refine wpAnyH_take (i := 16) (v := ?v47) rfl (by kernel_rfl) (by kernel_rfl) (by kernel_rfl) (fun _ _ _ h => h) (Or.inl ⟨by rfl, ?hy47⟩) hHeld ?rest47
        case hy47 => (intro W hSw; (try dsimp only at hSw); go_simp) <;> with_reducible rfl
        try simp only [Act.put, List.setIfInBounds_toArray, List.set_cons_zero, List.set_cons_succ, List.getElem_toArray, List.getElem_cons_succ, List.getElem_cons_zero]
        refine wpAnyH_take (i := 17) (v := ?v48) rfl (by kernel_rfl) (by kernel_rfl) (by kernel_rfl) (fun _ _ _ h => h) (Or.inl ⟨by rfl, ?hy48⟩) hHeld ?rest48
        case hy48 => (intro W hSw; (try dsimp only at hSw); go_simp) <;> with_reducible rfl
        try simp only [Act.put, List.setIfInBounds_toArray, List.set_cons_zero, List.set_cons_succ, List.getElem_toArray, List.getElem_cons_succ, List.getElem_cons_zero]
        refine wpAnyH_ready (rs := [3, 15]) (by kernel_rfl) (by simp) ?_
        refine AllReadyH.cons rfl (fun K hK => ?_) (AllReadyH.cons rfl (fun K hK => ?_) AllReadyH.nil)
        · go_simp
          refine (l1Num_any _ (by omega) (by omega) _).mono ?_
          rintro e wd1 ⟨rfl, hd1⟩
          go_wp2_with fail
          refine hK.out _ _ ⟨blw hHeld.1 hd1, (Below.cell hd1 (cell_lt hHeld.2.1)).trans hHeld.2.1, (Below.cell hd1 (cell_lt hHeld.2.2.1)).trans hHeld.2.2.1, (Below.cell hd1 (cell_lt hHeld.2.2.2.1)).trans hHeld.2.2.2.1, (Below.cell hd1 (cell_lt hHeld.2.2.2.2)).trans hHeld.2.2.2.2⟩ (fun hH2 => ?_)
          clear hK K hHeld
          have hHeld := hH2
          clear hH2
          try simp only [Act.put, List.setIfInBounds_toArray, List.set_cons_zero, List.set_cons_succ, List.getElem_toArray, List.getElem_cons_succ, List.getElem_cons_zero]
          refine wpAnyH_take (i := 4) (v := ?v49) rfl (by kernel_rfl) (by kernel_rfl) (by kernel_rfl) (fun _ _ _ h => h) (Or.inl ⟨by rfl, ?hy49⟩) hHeld ?rest49
          case hy49 => (intro W hSw; (try dsimp only at hSw); go_simp) <;> with_reducible rfl
          try simp only [Act.put, List.setIfInBounds_toArray, List.set_cons_zero, List.set_cons_succ, List.getElem_toArray, List.getElem_cons_succ, List.getElem_cons_zero]
          refine wpAnyH_take (i := 5) (v := ?v50) rfl (by kernel_rfl) (by kernel_rfl) (by kernel_rfl) (fun _ _ _ h => h) (Or.inl ⟨by rfl, ?hy50⟩) hHeld ?rest50
          case hy50 => (intro W hSw; (try dsimp only at hSw); go_simp) <;> with_reducible rfl
          try simp only [Act.put, List.setIfInBounds_toArray, List.set_cons_zero, List.set_cons_succ, List.getElem_toArray, List.getElem_cons_succ, List.getElem_cons_zero]
          refine wpAnyH_ready (rs := [8, 15]) (by kernel_rfl) (by simp) ?_
          refine AllReadyH.cons rfl (fun K hK => ?_) (AllReadyH.cons rfl (fun K hK => ?_) AllReadyH.nil)
          · go_simp
            refine (l1Num_any _ (by omega) (by omega) _).mono ?_
            rintro e wd2 ⟨rfl, hd2⟩
            go_wp2_with fail
            refine hK.out _ _ ⟨blw hHeld.1 hd2, (Below.cell hd2 (cell_lt hHeld.2.1)).trans hHeld.2.1, (Below.cell hd2 (cell_lt hHeld.2.2.1)).trans hHeld.2.2.1, (Below.cell hd2 (cell_lt hHeld.2.2.2.1)).trans hHeld.2.2.2.1, (Below.cell hd2 (cell_lt hHeld.2.2.2.2)).trans hHeld.2.2.2.2⟩ (fun hH2 => ?_)
            clear hK K hHeld
            have hHeld := hH2
            clear hH2
            try simp only [Act.put, List.setIfInBounds_toArray, List.set_cons_zero, List.set_cons_succ, List.getElem_toArray, List.getElem_cons_succ, List.getElem_cons_zero]
            refine wpAnyH_take (i := 9) (v := ?v51) rfl (by kernel_rfl) (by kernel_rfl) (by kernel_rfl) (fun _ _ _ h => h) (Or.inl ⟨by rfl, ?hy51⟩) hHeld ?rest51
            case hy51 => (intro W hSw; (try dsimp only at hSw); go_simp) <;> with_reducible rfl
            try simp only [Act.put, List.setIfInBounds_toArray, List.set_cons_zero, List.set_cons_succ, List.getElem_toArray, List.getElem_cons_succ, List.getElem_cons_zero]
            refine wpAnyH_take (i := 10) (v := ?v52) rfl (by kernel_rfl) (by kernel_rfl) (by kernel_rfl) (fun _ _ _ h => h) (Or.inl ⟨by rfl, ?hy52⟩) hHeld ?rest52
            case hy52 => (intro W hSw; (try dsimp only at hSw); go_simp) <;> with_reducible rfl
            try simp only [Act.put, List.setIfInBounds_toArray, List.set_cons_zero, List.set_cons_succ, List.getElem_toArray, List.getElem_cons_succ, List.getElem_cons_zero]
            refine wpAnyH_ready (rs := [13, 15]) (by kernel_rfl) (by simp) ?_
            refine AllReadyH.cons rfl (fun K hK => ?_) (AllReadyH.cons rfl (fun K hK => ?_) AllReadyH.nil)
            · go_simp
              refine (l1Num_any _ (by omega) (by omega) _).mono ?_
              rintro e wd3 ⟨rfl, hd3⟩
              go_wp2_with fail
              refine hK.out _ _ ⟨blw hHeld.1 hd3, (Below.cell hd3 (cell_lt hHeld.2.1)).trans hHeld.2.1, (Below.cell hd3 (cell_lt hHeld.2.2.1)).trans hHeld.2.2.1, (Below.cell hd3 (cell_lt hHeld.2.2.2.1)).trans hHeld.2.2.2.1, (Below.cell hd3 (cell_lt hHeld.2.2.2.2)).trans hHeld.2.2.2.2⟩ (fun hH2 => ?_)
              clear hK K hHeld
              have hHeld := hH2
              clear hH2
              try simp only [Act.put, List.setIfInBounds_toArray, List.set_cons_zero, List.set_cons_succ, List.getElem_toArray, List.getElem_cons_succ, List.getElem_cons_zero]
              refine wpAnyH_take (i := 14) (v := ?v53) rfl (by kernel_rfl) (by kernel_rfl) (by kernel_rfl) (fun _ _ _ h => h) (Or.inl ⟨by rfl, ?hy53⟩) hHeld ?rest53
              case hy53 => (intro W hSw; (try dsimp only at hSw); go_simp) <;> with_reducible rfl
              try simp only [Act.put, List.setIfInBounds_toArray, List.set_cons_zero, List.set_cons_succ, List.getElem_toArray, List.getElem_cons_succ, List.getElem_cons_zero]
              refine wpAnyH_ready (rs := [15]) (by kernel_rfl) (by simp) ?_
              refine AllReadyH.cons rfl (fun K hK => ?_) AllReadyH.nil
              go_simp
              refine hK.out _ _ (by first | exact ⟨blw hHeld.1 ((Below.refl _ _).alloc (Nat.le_refl _) _), (Below.cell ((Below.refl _ _).alloc (Nat.le_refl _) _) (cell_lt hHeld.2.1)).trans hHeld.2.1, (Below.cell ((Below.refl _ _).alloc (Nat.le_refl _) _) (cell_lt hHeld.2.2.1)).trans hHeld.2.2.1, (Below.cell ((Below.refl _ _).alloc (Nat.le_refl _) _) (cell_lt hHeld.2.2.2.1)).trans hHeld.2.2.2.1, (Below.cell ((Below.refl _ _).alloc (Nat.le_refl _) _) (cell_lt hHeld.2.2.2.2)).trans hHeld.2.2.2.2⟩ | exact ⟨blw hHeld.1 (((Below.refl _ _).alloc (Nat.le_refl _) _).drew), (Below.cell (((Below.refl _ _).alloc (Nat.le_refl _) _).drew) (cell_lt hHeld.2.1)).trans hHeld.2.1, (Below.cell (((Below.refl _ _).alloc (Nat.le_refl _) _).drew) (cell_lt hHeld.2.2.1)).trans hHeld.2.2.1, (Below.cell (((Below.refl _ _).alloc (Nat.le_refl _) _).drew) (cell_lt hHeld.2.2.2.1)).trans hHeld.2.2.2.1, (Below.cell (((Below.refl _ _).alloc (Nat.le_refl _) _).drew) (cell_lt hHeld.2.2.2.2)).trans hHeld.2.2.2.2⟩) (fun hH2 => ?_)
              clear hK K hHeld
              have hHeld := hH2
              clear hH2
              refine wpAnyH_turnAt (S2 := fun W => Below w.heap.size w W ∧ W.cell? ⟨wr.heap.size, 0, none⟩ = some (.int .i64 l[k].s) ∧ W.cell? ⟨wr.heap.size, 1, none⟩ = some (.int .i64 l[k].e) ∧ W.cell? ⟨wr.heap.size, 2, none⟩ = some (.int .i64 l[k].d) ∧ W.cell? ⟨wr.heap.size, 3, none⟩ = some (.int .i64 l[k].a) ∧ W.cell? ⟨wd3.heap.size, (l[k].a).toNat, none⟩ = some (.string (actT l[k].a))) (fun W h => ⟨h.1, h.2.1, h.2.2.1, h.2.2.2.1, h.2.2.2.2.1⟩) ⟨hHeld.1, hHeld.2.1, hHeld.2.2.1, hHeld.2.2.2.1, hHeld.2.2.2.2, ((Blk.new wd3 9 #[.string ⟨#[]⟩, .string ⟨#[107]⟩, .string ⟨#[116]⟩, .string ⟨#[100]⟩]).cell _).trans hidx⟩ (fun hH2 => ?_)
              clear hHeld
              have hHeld := hH2
              clear hH2
              try simp only [Act.put, List.setIfInBounds_toArray, List.set_cons_zero, List.set_cons_succ, List.getElem_toArray, List.getElem_cons_succ, List.getElem_cons_zero]
              refine wpAnyH_take (i := 18) (v := ?v54) rfl (by kernel_rfl) (by kernel_rfl) (by kernel_rfl) (fun _ _ _ h => h) (Or.inl ⟨by rfl, ?hy54⟩) hHeld ?rest54
              case hy54 => (intro W hSw; (try dsimp only at hSw); go_simp) <;> with_reducible rfl
              try simp only [Act.put, List.setIfInBounds_toArray, List.set_cons_zero, List.set_cons_succ, List.getElem_toArray, List.getElem_cons_succ, List.getElem_cons_zero]
              refine wpAnyH_take (i := 19) (v := ?v55) rfl (by kernel_rfl) (by kernel_rfl) (by kernel_rfl) (fun _ _ _ h => h) (Or.inl ⟨by rfl, ?hy55⟩) hHeld ?rest55
              case hy55 => (intro W hSw; (try dsimp only at hSw); go_simp) <;> with_reducible rfl
              try simp only [Act.put, List.setIfInBounds_toArray, List.set_cons_zero, List.set_cons_succ, List.getElem_toArray, List.getElem_cons_succ, List.getElem_cons_zero]
              refine wpAnyH_take (i := 20) (v := ?v56) rfl (by kernel_rfl) (by kernel_rfl) (by kernel_rfl) (fun _ _ _ h => h) (Or.inl ⟨by rfl, ?hy56⟩) hHeld ?rest56
              case hy56 => (intro W hSw; (try dsimp only at hSw); go_simp) <;> with_reducible rfl
              try simp only [Act.put, List.setIfInBounds_toArray, List.set_cons_zero, List.set_cons_succ, List.getElem_toArray, List.getElem_cons_succ, List.getElem_cons_zero]
              refine wpAnyH_take (i := 21) (v := ?v57) rfl (by kernel_rfl) (by kernel_rfl) (by kernel_rfl) (fun _ _ _ h => h) (Or.inl ⟨by rfl, ?hy57⟩) hHeld ?rest57
              case hy57 => (intro W hSw; (try dsimp only at hSw); go_simp) <;> with_reducible rfl
              try simp only [Act.put, List.setIfInBounds_toArray, List.set_cons_zero, List.set_cons_succ, List.getElem_toArray, List.getElem_cons_succ, List.getElem_cons_zero]
              refine wpAnyH_done (by kernel_rfl) ?_ _
              refine NoPanic.normal ?_
              have hBi := hHeld.1
              go_wp2_with fail
              go_roundw
              case rel => exact ⟨k + 1, by omega, by go_num, by rw [Hs.out]; simp only [rulT, spB, ByteArray.append_assoc], hBi⟩
              case measure => simp [intOf]; omega
            · go_simp
              refine hK.out _ _ (by first | exact ⟨blw hHeld.1 ((Below.refl _ _).alloc (Nat.le_refl _) _), (Below.cell ((Below.refl _ _).alloc (Nat.le_refl _) _) (cell_lt hHeld.2.1)).trans hHeld.2.1, (Below.cell ((Below.refl _ _).alloc (Nat.le_refl _) _) (cell_lt hHeld.2.2.1)).trans hHeld.2.2.1, (Below.cell ((Below.refl _ _).alloc (Nat.le_refl _) _) (cell_lt hHeld.2.2.2.1)).trans hHeld.2.2.2.1, (Below.cell ((Below.refl _ _).alloc (Nat.le_refl _) _) (cell_lt hHeld.2.2.2.2)).trans hHeld.2.2.2.2⟩ | exact ⟨blw hHeld.1 (((Below.refl _ _).alloc (Nat.le_refl _) _).drew), (Below.cell (((Below.refl _ _).alloc (Nat.le_refl _) _).drew) (cell_lt hHeld.2.1)).trans hHeld.2.1, (Below.cell (((Below.refl _ _).alloc (Nat.le_refl _) _).drew) (cell_lt hHeld.2.2.1)).trans hHeld.2.2.1, (Below.cell (((Below.refl _ _).alloc (Nat.le_refl _) _).drew) (cell_lt hHeld.2.2.2.1)).trans hHeld.2.2.2.1, (Below.cell (((Below.refl _ _).alloc (Nat.le_refl _) _).drew) (cell_lt hHeld.2.2.2.2)).trans hHeld.2.2.2.2⟩) (fun hH2 => ?_)
              clear hK K hHeld
              have hHeld := hH2
              clear hH2
              refine wpAnyH_turnAt (S2 := fun W => Below w.heap.size w W ∧ W.cell? ⟨wr.heap.size, 0, none⟩ = some (.int .i64 l[k].s) ∧ W.cell? ⟨wr.heap.size, 1, none⟩ = some (.int .i64 l[k].e) ∧ W.cell? ⟨wr.heap.size, 2, none⟩ = some (.int .i64 l[k].d) ∧ W.cell? ⟨wr.heap.size, 3, none⟩ = some (.int .i64 l[k].a) ∧ W.cell? ⟨wd2.heap.size, (l[k].a).toNat, none⟩ = some (.string (actT l[k].a))) (fun W h => ⟨h.1, h.2.1, h.2.2.1, h.2.2.2.1, h.2.2.2.2.1⟩) ⟨hHeld.1, hHeld.2.1, hHeld.2.2.1, hHeld.2.2.2.1, hHeld.2.2.2.2, ((Blk.new wd2 9 #[.string ⟨#[]⟩, .string ⟨#[107]⟩, .string ⟨#[116]⟩, .string ⟨#[100]⟩]).cell _).trans hidx⟩ (fun hH2 => ?_)
              clear hHeld
              have hHeld := hH2
              clear hH2
              try simp only [Act.put, List.setIfInBounds_toArray, List.set_cons_zero, List.set_cons_succ, List.getElem_toArray, List.getElem_cons_succ, List.getElem_cons_zero]
              refine wpAnyH_take (i := 18) (v := ?v58) rfl (by kernel_rfl) (by kernel_rfl) (by kernel_rfl) (fun _ _ _ h => h) (Or.inl ⟨by rfl, ?hy58⟩) hHeld ?rest58
              case hy58 => (intro W hSw; (try dsimp only at hSw); go_simp) <;> with_reducible rfl
              try simp only [Act.put, List.setIfInBounds_toArray, List.set_cons_zero, List.set_cons_succ, List.getElem_toArray, List.getElem_cons_succ, List.getElem_cons_zero]
              refine wpAnyH_take (i := 19) (v := ?v59) rfl (by kernel_rfl) (by kernel_rfl) (by kernel_rfl) (fun _ _ _ h => h) (Or.inl ⟨by rfl, ?hy59⟩) hHeld ?rest59
              case hy59 => (intro W hSw; (try dsimp only at hSw); go_simp) <;> with_reducible rfl
              try simp only [Act.put, List.setIfInBounds_toArray, List.set_cons_zero, List.set_cons_succ, List.getElem_toArray, List.getElem_cons_succ, List.getElem_cons_zero]
              refine wpAnyH_ready (rs := [13]) (by kernel_rfl) (by simp) ?_
              refine AllReadyH.cons rfl (fun K hK => ?_) AllReadyH.nil
              go_simp
              refine (l1Num_any _ (by omega) (by omega) _).mono ?_
              rintro e wd3 ⟨rfl, hd3⟩
              go_wp2_with fail
              refine hK.out _ _ ⟨blw hHeld.1 hd3, (Below.cell hd3 (cell_lt hHeld.2.1)).trans hHeld.2.1, (Below.cell hd3 (cell_lt hHeld.2.2.1)).trans hHeld.2.2.1, (Below.cell hd3 (cell_lt hHeld.2.2.2.1)).trans hHeld.2.2.2.1, (Below.cell hd3 (cell_lt hHeld.2.2.2.2.1)).trans hHeld.2.2.2.2.1, (Below.cell hd3 (cell_lt hHeld.2.2.2.2.2)).trans hHeld.2.2.2.2.2⟩ (fun hH2 => ?_)
              clear hK K hHeld
              have hHeld := hH2
              clear hH2
              try simp only [Act.put, List.setIfInBounds_toArray, List.set_cons_zero, List.set_cons_succ, List.getElem_toArray, List.getElem_cons_succ, List.getElem_cons_zero]
              refine wpAnyH_take (i := 14) (v := ?v60) rfl (by kernel_rfl) (by kernel_rfl) (by kernel_rfl) (fun _ _ _ h => h) (Or.inl ⟨by rfl, ?hy60⟩) hHeld ?rest60
              case hy60 => (intro W hSw; (try dsimp only at hSw); go_simp) <;> with_reducible rfl
              try simp only [Act.put, List.setIfInBounds_toArray, List.set_cons_zero, List.set_cons_succ, List.getElem_toArray, List.getElem_cons_succ, List.getElem_cons_zero]
              refine wpAnyH_take (i := 20) (v := ?v61) rfl (by kernel_rfl) (by kernel_rfl) (by kernel_rfl) (fun _ _ _ h => h) (Or.inl ⟨by rfl, ?hy61⟩) hHeld ?rest61
              case hy61 => (intro W hSw; (try dsimp only at hSw); go_simp) <;> with_reducible rfl
              try simp only [Act.put, List.setIfInBounds_toArray, List.set_cons_zero, List.set_cons_succ, List.getElem_toArray, List.getElem_cons_succ, List.getElem_cons_zero]
              refine wpAnyH_take (i := 21) (v := ?v62) rfl (by kernel_rfl) (by kernel_rfl) (by kernel_rfl) (fun _ _ _ h => h) (Or.inl ⟨by rfl, ?hy62⟩) hHeld ?rest62
              case hy62 => (intro W hSw; (try dsimp only at hSw); go_simp) <;> with_reducible rfl
              try simp only [Act.put, List.setIfInBounds_toArray, List.set_cons_zero, List.set_cons_succ, List.getElem_toArray, List.getElem_cons_succ, List.getElem_cons_zero]
              refine wpAnyH_done (by kernel_rfl) ?_ _
              refine NoPanic.normal ?_
              have hBi := hHeld.1
              go_wp2_with fail
              go_roundw
              case rel => exact ⟨k + 1, by omega, by go_num, by rw [Hs.out]; simp only [rulT, spB, ByteArray.append_assoc], hBi⟩
              case measure => simp [intOf]; omega
          · go_simp
            refine hK.out _ _ (by first | exact ⟨blw hHeld.1 ((Below.refl _ _).alloc (Nat.le_refl _) _), (Below.cell ((Below.refl _ _).alloc (Nat.le_refl _) _) (cell_lt hHeld.2.1)).trans hHeld.2.1, (Below.cell ((Below.refl _ _).alloc (Nat.le_refl _) _) (cell_lt hHeld.2.2.1)).trans hHeld.2.2.1, (Below.cell ((Below.refl _ _).alloc (Nat.le_refl _) _) (cell_lt hHeld.2.2.2.1)).trans hHeld.2.2.2.1, (Below.cell ((Below.refl _ _).alloc (Nat.le_refl _) _) (cell_lt hHeld.2.2.2.2)).trans hHeld.2.2.2.2⟩ | exact ⟨blw hHeld.1 (((Below.refl _ _).alloc (Nat.le_refl _) _).drew), (Below.cell (((Below.refl _ _).alloc (Nat.le_refl _) _).drew) (cell_lt hHeld.2.1)).trans hHeld.2.1, (Below.cell (((Below.refl _ _).alloc (Nat.le_refl _) _).drew) (cell_lt hHeld.2.2.1)).trans hHeld.2.2.1, (Below.cell (((Below.refl _ _).alloc (Nat.le_refl _) _).drew) (cell_lt hHeld.2.2.2.1)).trans hHeld.2.2.2.1, (Below.cell (((Below.refl _ _).alloc (Nat.le_refl _) _).drew) (cell_lt hHeld.2.2.2.2)).trans hHeld.2.2.2.2⟩) (fun hH2 => ?_)
            clear hK K hHeld
            have hHeld := hH2
            clear hH2
            refine wpAnyH_turnAt (S2 := fun W => Below w.heap.size w W ∧ W.cell? ⟨wr.heap.size, 0, none⟩ = some (.int .i64 l[k].s) ∧ W.cell? ⟨wr.heap.size, 1, none⟩ = some (.int .i64 l[k].e) ∧ W.cell? ⟨wr.heap.size, 2, none⟩ = some (.int .i64 l[k].d) ∧ W.cell? ⟨wr.heap.size, 3, none⟩ = some (.int .i64 l[k].a) ∧ W.cell? ⟨wd1.heap.size, (l[k].a).toNat, none⟩ = some (.string (actT l[k].a))) (fun W h => ⟨h.1, h.2.1, h.2.2.1, h.2.2.2.1, h.2.2.2.2.1⟩) ⟨hHeld.1, hHeld.2.1, hHeld.2.2.1, hHeld.2.2.2.1, hHeld.2.2.2.2, ((Blk.new wd1 9 #[.string ⟨#[]⟩, .string ⟨#[107]⟩, .string ⟨#[116]⟩, .string ⟨#[100]⟩]).cell _).trans hidx⟩ (fun hH2 => ?_)
            clear hHeld
            have hHeld := hH2
            clear hH2
            try simp only [Act.put, List.setIfInBounds_toArray, List.set_cons_zero, List.set_cons_succ, List.getElem_toArray, List.getElem_cons_succ, List.getElem_cons_zero]
            refine wpAnyH_take (i := 18) (v := ?v63) rfl (by kernel_rfl) (by kernel_rfl) (by kernel_rfl) (fun _ _ _ h => h) (Or.inl ⟨by rfl, ?hy63⟩) hHeld ?rest63
            case hy63 => (intro W hSw; (try dsimp only at hSw); go_simp) <;> with_reducible rfl
            try simp only [Act.put, List.setIfInBounds_toArray, List.set_cons_zero, List.set_cons_succ, List.getElem_toArray, List.getElem_cons_succ, List.getElem_cons_zero]
            refine wpAnyH_take (i := 19) (v := ?v64) rfl (by kernel_rfl) (by kernel_rfl) (by kernel_rfl) (fun _ _ _ h => h) (Or.inl ⟨by rfl, ?hy64⟩) hHeld ?rest64
            case hy64 => (intro W hSw; (try dsimp only at hSw); go_simp) <;> with_reducible rfl
            try simp only [Act.put, List.setIfInBounds_toArray, List.set_cons_zero, List.set_cons_succ, List.getElem_toArray, List.getElem_cons_succ, List.getElem_cons_zero]
            refine wpAnyH_ready (rs := [8]) (by kernel_rfl) (by simp) ?_
            refine AllReadyH.cons rfl (fun K hK => ?_) AllReadyH.nil
            go_simp
            refine (l1Num_any _ (by omega) (by omega) _).mono ?_
            rintro e wd2 ⟨rfl, hd2⟩
            go_wp2_with fail
            refine hK.out _ _ ⟨blw hHeld.1 hd2, (Below.cell hd2 (cell_lt hHeld.2.1)).trans hHeld.2.1, (Below.cell hd2 (cell_lt hHeld.2.2.1)).trans hHeld.2.2.1, (Below.cell hd2 (cell_lt hHeld.2.2.2.1)).trans hHeld.2.2.2.1, (Below.cell hd2 (cell_lt hHeld.2.2.2.2.1)).trans hHeld.2.2.2.2.1, (Below.cell hd2 (cell_lt hHeld.2.2.2.2.2)).trans hHeld.2.2.2.2.2⟩ (fun hH2 => ?_)
            clear hK K hHeld
            have hHeld := hH2
            clear hH2
            try simp only [Act.put, List.setIfInBounds_toArray, List.set_cons_zero, List.set_cons_succ, List.getElem_toArray, List.getElem_cons_succ, List.getElem_cons_zero]
            refine wpAnyH_take (i := 9) (v := ?v65) rfl (by kernel_rfl) (by kernel_rfl) (by kernel_rfl) (fun _ _ _ h => h) (Or.inl ⟨by rfl, ?hy65⟩) hHeld ?rest65
            case hy65 => (intro W hSw; (try dsimp only at hSw); go_simp) <;> with_reducible rfl
            try simp only [Act.put, List.setIfInBounds_toArray, List.set_cons_zero, List.set_cons_succ, List.getElem_toArray, List.getElem_cons_succ, List.getElem_cons_zero]
            refine wpAnyH_take (i := 10) (v := ?v66) rfl (by kernel_rfl) (by kernel_rfl) (by kernel_rfl) (fun _ _ _ h => h) (Or.inl ⟨by rfl, ?hy66⟩) hHeld ?rest66
            case hy66 => (intro W hSw; (try dsimp only at hSw); go_simp) <;> with_reducible rfl
            try simp only [Act.put, List.setIfInBounds_toArray, List.set_cons_zero, List.set_cons_succ, List.getElem_toArray, List.getElem_cons_succ, List.getElem_cons_zero]
            refine wpAnyH_ready (rs := [13]) (by kernel_rfl) (by simp) ?_
            refine AllReadyH.cons rfl (fun K hK => ?_) AllReadyH.nil
            go_simp
            refine (l1Num_any _ (by omega) (by omega) _).mono ?_
            rintro e wd3 ⟨rfl, hd3⟩
            go_wp2_with fail
            refine hK.out _ _ ⟨blw hHeld.1 hd3, (Below.cell hd3 (cell_lt hHeld.2.1)).trans hHeld.2.1, (Below.cell hd3 (cell_lt hHeld.2.2.1)).trans hHeld.2.2.1, (Below.cell hd3 (cell_lt hHeld.2.2.2.1)).trans hHeld.2.2.2.1, (Below.cell hd3 (cell_lt hHeld.2.2.2.2.1)).trans hHeld.2.2.2.2.1, (Below.cell hd3 (cell_lt hHeld.2.2.2.2.2)).trans hHeld.2.2.2.2.2⟩ (fun hH2 => ?_)
            clear hK K hHeld
            have hHeld := hH2
            clear hH2
            try simp only [Act.put, List.setIfInBounds_toArray, List.set_cons_zero, List.set_cons_succ, List.getElem_toArray, List.getElem_cons_succ, List.getElem_cons_zero]
            refine wpAnyH_take (i := 14) (v := ?v67) rfl (by kernel_rfl) (by kernel_rfl) (by kernel_rfl) (fun _ _ _ h => h) (Or.inl ⟨by rfl, ?hy67⟩) hHeld ?rest67
            case hy67 => (intro W hSw; (try dsimp only at hSw); go_simp) <;> with_reducible rfl
            try simp only [Act.put, List.setIfInBounds_toArray, List.set_cons_zero, List.set_cons_succ, List.getElem_toArray, List.getElem_cons_succ, List.getElem_cons_zero]
            refine wpAnyH_take (i := 20) (v := ?v68) rfl (by kernel_rfl) (by kernel_rfl) (by kernel_rfl) (fun _ _ _ h => h) (Or.inl ⟨by rfl, ?hy68⟩) hHeld ?rest68
            case hy68 => (intro W hSw; (try dsimp only at hSw); go_simp) <;> with_reducible rfl
            try simp only [Act.put, List.setIfInBounds_toArray, List.set_cons_zero, List.set_cons_succ, List.getElem_toArray, List.getElem_cons_succ, List.getElem_cons_zero]
            refine wpAnyH_take (i := 21) (v := ?v69) rfl (by kernel_rfl) (by kernel_rfl) (by kernel_rfl) (fun _ _ _ h => h) (Or.inl ⟨by rfl, ?hy69⟩) hHeld ?rest69
            case hy69 => (intro W hSw; (try dsimp only at hSw); go_simp) <;> with_reducible rfl
            try simp only [Act.put, List.setIfInBounds_toArray, List.set_cons_zero, List.set_cons_succ, List.getElem_toArray, List.getElem_cons_succ, List.getElem_cons_zero]
            refine wpAnyH_done (by kernel_rfl) ?_ _
            refine NoPanic.normal ?_
            have hBi := hHeld.1
            go_wp2_with fail
            go_roundw
            case rel => exact ⟨k + 1, by omega, by go_num, by rw [Hs.out]; simp only [rulT, spB, ByteArray.append_assoc], hBi⟩
            case measure => simp [intOf]; omega
        · go_simp
          refine hK.out _ _ (by first | exact ⟨blw hHeld.1 ((Below.refl _ _).alloc (Nat.le_refl _) _), (Below.cell ((Below.refl _ _).alloc (Nat.le_refl _) _) (cell_lt hHeld.2.1)).trans hHeld.2.1, (Below.cell ((Below.refl _ _).alloc (Nat.le_refl _) _) (cell_lt hHeld.2.2.1)).trans hHeld.2.2.1, (Below.cell ((Below.refl _ _).alloc (Nat.le_refl _) _) (cell_lt hHeld.2.2.2.1)).trans hHeld.2.2.2.1, (Below.cell ((Below.refl _ _).alloc (Nat.le_refl _) _) (cell_lt hHeld.2.2.2.2)).trans hHeld.2.2.2.2⟩ | exact ⟨blw hHeld.1 (((Below.refl _ _).alloc (Nat.le_refl _) _).drew), (Below.cell (((Below.refl _ _).alloc (Nat.le_refl _) _).drew) (cell_lt hHeld.2.1)).trans hHeld.2.1, (Below.cell (((Below.refl _ _).alloc (Nat.le_refl _) _).drew) (cell_lt hHeld.2.2.1)).trans hHeld.2.2.1, (Below.cell (((Below.refl _ _).alloc (Nat.le_refl _) _).drew) (cell_lt hHeld.2.2.2.1)).trans hHeld.2.2.2.1, (Below.cell (((Below.refl _ _).alloc (Nat.le_refl _) _).drew) (cell_lt hHeld.2.2.2.2)).trans hHeld.2.2.2.2⟩) (fun hH2 => ?_)
          clear hK K hHeld
          have hHeld := hH2
          clear hH2
          refine wpAnyH_turnAt (S2 := fun W => Below w.heap.size w W ∧ W.cell? ⟨wr.heap.size, 0, none⟩ = some (.int .i64 l[k].s) ∧ W.cell? ⟨wr.heap.size, 1, none⟩ = some (.int .i64 l[k].e) ∧ W.cell? ⟨wr.heap.size, 2, none⟩ = some (.int .i64 l[k].d) ∧ W.cell? ⟨wr.heap.size, 3, none⟩ = some (.int .i64 l[k].a) ∧ W.cell? ⟨wB.heap.size, (l[k].a).toNat, none⟩ = some (.string (actT l[k].a))) (fun W h => ⟨h.1, h.2.1, h.2.2.1, h.2.2.2.1, h.2.2.2.2.1⟩) ⟨hHeld.1, hHeld.2.1, hHeld.2.2.1, hHeld.2.2.2.1, hHeld.2.2.2.2, ((Blk.drew (Blk.new wB 9 #[.string ⟨#[]⟩, .string ⟨#[107]⟩, .string ⟨#[116]⟩, .string ⟨#[100]⟩])).cell _).trans hidx⟩ (fun hH2 => ?_)
          clear hHeld
          have hHeld := hH2
          clear hH2
          try simp only [Act.put, List.setIfInBounds_toArray, List.set_cons_zero, List.set_cons_succ, List.getElem_toArray, List.getElem_cons_succ, List.getElem_cons_zero]
          refine wpAnyH_take (i := 18) (v := ?v70) rfl (by kernel_rfl) (by kernel_rfl) (by kernel_rfl) (fun _ _ _ h => h) (Or.inl ⟨by rfl, ?hy70⟩) hHeld ?rest70
          case hy70 => (intro W hSw; (try dsimp only at hSw); go_simp) <;> with_reducible rfl
          try simp only [Act.put, List.setIfInBounds_toArray, List.set_cons_zero, List.set_cons_succ, List.getElem_toArray, List.getElem_cons_succ, List.getElem_cons_zero]
          refine wpAnyH_take (i := 19) (v := ?v71) rfl (by kernel_rfl) (by kernel_rfl) (by kernel_rfl) (fun _ _ _ h => h) (Or.inl ⟨by rfl, ?hy71⟩) hHeld ?rest71
          case hy71 => (intro W hSw; (try dsimp only at hSw); go_simp) <;> with_reducible rfl
          try simp only [Act.put, List.setIfInBounds_toArray, List.set_cons_zero, List.set_cons_succ, List.getElem_toArray, List.getElem_cons_succ, List.getElem_cons_zero]
          refine wpAnyH_ready (rs := [3]) (by kernel_rfl) (by simp) ?_
          refine AllReadyH.cons rfl (fun K hK => ?_) AllReadyH.nil
          go_simp
          refine (l1Num_any _ (by omega) (by omega) _).mono ?_
          rintro e wd1 ⟨rfl, hd1⟩
          go_wp2_with fail
          refine hK.out _ _ ⟨blw hHeld.1 hd1, (Below.cell hd1 (cell_lt hHeld.2.1)).trans hHeld.2.1, (Below.cell hd1 (cell_lt hHeld.2.2.1)).trans hHeld.2.2.1, (Below.cell hd1 (cell_lt hHeld.2.2.2.1)).trans hHeld.2.2.2.1, (Below.cell hd1 (cell_lt hHeld.2.2.2.2.1)).trans hHeld.2.2.2.2.1, (Below.cell hd1 (cell_lt hHeld.2.2.2.2.2)).trans hHeld.2.2.2.2.2⟩ (fun hH2 => ?_)
          clear hK K hHeld
          have hHeld := hH2
          clear hH2
          try simp only [Act.put, List.setIfInBounds_toArray, List.set_cons_zero, List.set_cons_succ, List.getElem_toArray, List.getElem_cons_succ, List.getElem_cons_zero]
          refine wpAnyH_take (i := 4) (v := ?v72) rfl (by kernel_rfl) (by kernel_rfl) (by kernel_rfl) (fun _ _ _ h => h) (Or.inl ⟨by rfl, ?hy72⟩) hHeld ?rest72
          case hy72 => (intro W hSw; (try dsimp only at hSw); go_simp) <;> with_reducible rfl
          try simp only [Act.put, List.setIfInBounds_toArray, List.set_cons_zero, List.set_cons_succ, List.getElem_toArray, List.getElem_cons_succ, List.getElem_cons_zero]
          refine wpAnyH_take (i := 5) (v := ?v73) rfl (by kernel_rfl) (by kernel_rfl) (by kernel_rfl) (fun _ _ _ h => h) (Or.inl ⟨by rfl, ?hy73⟩) hHeld ?rest73
          case hy73 => (intro W hSw; (try dsimp only at hSw); go_simp) <;> with_reducible rfl
          try simp only [Act.put, List.setIfInBounds_toArray, List.set_cons_zero, List.set_cons_succ, List.getElem_toArray, List.getElem_cons_succ, List.getElem_cons_zero]
          refine wpAnyH_ready (rs := [8]) (by kernel_rfl) (by simp) ?_
          refine AllReadyH.cons rfl (fun K hK => ?_) AllReadyH.nil
          go_simp
          refine (l1Num_any _ (by omega) (by omega) _).mono ?_
          rintro e wd2 ⟨rfl, hd2⟩
          go_wp2_with fail
          refine hK.out _ _ ⟨blw hHeld.1 hd2, (Below.cell hd2 (cell_lt hHeld.2.1)).trans hHeld.2.1, (Below.cell hd2 (cell_lt hHeld.2.2.1)).trans hHeld.2.2.1, (Below.cell hd2 (cell_lt hHeld.2.2.2.1)).trans hHeld.2.2.2.1, (Below.cell hd2 (cell_lt hHeld.2.2.2.2.1)).trans hHeld.2.2.2.2.1, (Below.cell hd2 (cell_lt hHeld.2.2.2.2.2)).trans hHeld.2.2.2.2.2⟩ (fun hH2 => ?_)
          clear hK K hHeld
          have hHeld := hH2
          clear hH2
          try simp only [Act.put, List.setIfInBounds_toArray, List.set_cons_zero, List.set_cons_succ, List.getElem_toArray, List.getElem_cons_succ, List.getElem_cons_zero]
          refine wpAnyH_take (i := 9) (v := ?v74) rfl (by kernel_rfl) (by kernel_rfl) (by kernel_rfl) (fun _ _ _ h => h) (Or.inl ⟨by rfl, ?hy74⟩) hHeld ?rest74
          case hy74 => (intro W hSw; (try dsimp only at hSw); go_simp) <;> with_reducible rfl
          try simp only [Act.put, List.setIfInBounds_toArray, List.set_cons_zero, List.set_cons_succ, List.getElem_toArray, List.getElem_cons_succ, List.getElem_cons_zero]
          refine wpAnyH_take (i := 10) (v := ?v75) rfl (by kernel_rfl) (by kernel_rfl) (by kernel_rfl) (fun _ _ _ h => h) (Or.inl ⟨by rfl, ?hy75⟩) hHeld ?rest75
          case hy75 => (intro W hSw; (try dsimp only at hSw); go_simp) <;> with_reducible rfl
          try simp only [Act.put, List.setIfInBounds_toArray, List.set_cons_zero, List.set_cons_succ, List.getElem_toArray, List.getElem_cons_succ, List.getElem_cons_zero]
          refine wpAnyH_ready (rs := [13]) (by kernel_rfl) (by simp) ?_
          refine AllReadyH.cons rfl (fun K hK => ?_) AllReadyH.nil
          go_simp
          refine (l1Num_any _ (by omega) (by omega) _).mono ?_
          rintro e wd3 ⟨rfl, hd3⟩
          go_wp2_with fail
          refine hK.out _ _ ⟨blw hHeld.1 hd3, (Below.cell hd3 (cell_lt hHeld.2.1)).trans hHeld.2.1, (Below.cell hd3 (cell_lt hHeld.2.2.1)).trans hHeld.2.2.1, (Below.cell hd3 (cell_lt hHeld.2.2.2.1)).trans hHeld.2.2.2.1, (Below.cell hd3 (cell_lt hHeld.2.2.2.2.1)).trans hHeld.2.2.2.2.1, (Below.cell hd3 (cell_lt hHeld.2.2.2.2.2)).trans hHeld.2.2.2.2.2⟩ (fun hH2 => ?_)
          clear hK K hHeld
          have hHeld := hH2
          clear hH2
          try simp only [Act.put, List.setIfInBounds_toArray, List.set_cons_zero, List.set_cons_succ, List.getElem_toArray, List.getElem_cons_succ, List.getElem_cons_zero]
          refine wpAnyH_take (i := 14) (v := ?v76) rfl (by kernel_rfl) (by kernel_rfl) (by kernel_rfl) (fun _ _ _ h => h) (Or.inl ⟨by rfl, ?hy76⟩) hHeld ?rest76
          case hy76 => (intro W hSw; (try dsimp only at hSw); go_simp) <;> with_reducible rfl
          try simp only [Act.put, List.setIfInBounds_toArray, List.set_cons_zero, List.set_cons_succ, List.getElem_toArray, List.getElem_cons_succ, List.getElem_cons_zero]
          refine wpAnyH_take (i := 20) (v := ?v77) rfl (by kernel_rfl) (by kernel_rfl) (by kernel_rfl) (fun _ _ _ h => h) (Or.inl ⟨by rfl, ?hy77⟩) hHeld ?rest77
          case hy77 => (intro W hSw; (try dsimp only at hSw); go_simp) <;> with_reducible rfl
          try simp only [Act.put, List.setIfInBounds_toArray, List.set_cons_zero, List.set_cons_succ, List.getElem_toArray, List.getElem_cons_succ, List.getElem_cons_zero]
          refine wpAnyH_take (i := 21) (v := ?v78) rfl (by kernel_rfl) (by kernel_rfl) (by kernel_rfl) (fun _ _ _ h => h) (Or.inl ⟨by rfl, ?hy78⟩) hHeld ?rest78
          case hy78 => (intro W hSw; (try dsimp only at hSw); go_simp) <;> with_reducible rfl
          try simp only [Act.put, List.setIfInBounds_toArray, List.set_cons_zero, List.set_cons_succ, List.getElem_toArray, List.getElem_cons_succ, List.getElem_cons_zero]
          refine wpAnyH_done (by kernel_rfl) ?_ _
          refine NoPanic.normal ?_
          have hBi := hHeld.1
          go_wp2_with fail
          go_roundw
          case rel => exact ⟨k + 1, by omega, by go_num, by rw [Hs.out]; simp only [rulT, spB, ByteArray.append_assoc], hBi⟩
          case measure => simp [intOf]; omega
    · have hkk : k = l.length := by omega
      subst hkk
      go_wp2_with fail
      go_ret
      exact ⟨by rw [← schK_end]; rfl, hb⟩

set_option maxHeartbeats 400000 in
theorem c_spec_ScheduleText (A : Option Addr) (c : Nat) (l : List RuleD) (w : World) (hl : Ls w w.heap.size encRule 4 A l) (hm : l.length ≤ 1048576) :
    Calls Tryd.prog 17 #[.slice A l.length c] w fun e w' => e = .returned (.tuple #[.string (schS l), .bool (schedB l)]) ∧ Below w.heap.size w w' := by
  have hG := l4Good_any A c l w hl (by omega)
  cases h1 : schedB l
  · have Hv := Lib.hid (show schS l = ⟨#[]⟩ by simp [schS, h1])
    rw [h1] at hG
    clear h1
    go_enter Tryd.func17, Tryd.ntmps17
    go_wp2_with fail
    refine hG.mono ?_
    rintro e w1 ⟨rfl, hb1⟩
    go_wp2_with fail
    go_ret2
    exact ⟨by rw [Hv.out]; rfl, hb1⟩
  · have Hv := Lib.hid (show schS l = schT l by simp [schS, h1])
    have H1 := Lib.hid h1
    rw [h1] at hG
    clear h1
    go_enter Tryd.func17, Tryd.ntmps17
    go_wp2_with fail
    refine hG.mono ?_
    rintro e w1 ⟨rfl, hb1⟩
    go_wp2_with fail
    refine (l4Text_any A c l _ ((hl.below hb1).more hb1.size) H1.out).mono ?_
    rintro e w2 ⟨rfl, hb2⟩
    go_wp2_with fail
    go_ret2
    exact ⟨by rw [Hv.out]; rfl, blw hb1 hb2⟩

set_option maxHeartbeats 400000 in
theorem c_impl_ScheduleText (A : Option Addr) (c : Nat) (l : List RuleD) (w : World) (hl : Ls w w.heap.size encRule 4 A l) (hm : l.length ≤ 1048576) (ht : Tab w) :
    Calls Tryd.prog 19 #[.slice A l.length c] w fun e w' => e = .returned (.tuple #[.string (schS l), .bool (schedB l)]) ∧ Below w.heap.size w w' := by
  have hG := IsSchedule_any A c l w hl (by omega)
  cases h1 : schedB l
  · have Hv := Lib.hid (show schS l = ⟨#[]⟩ by simp [schS, h1])
    rw [h1] at hG
    clear h1
    go_enter Tryd.func19, Tryd.ntmps19
    go_wp2_with fail
    refine hG.mono ?_
    rintro e w1 ⟨rfl, hb1⟩
    go_wp2_with fail
    go_ret2
    exact ⟨by rw [Hv.out]; rfl, hb1⟩
  · have Hv := Lib.hid (show schS l = schT l by simp [schS, h1])
    have H1 := Lib.hid h1
    rw [h1] at hG
    clear h1
    go_enter Tryd.func19, Tryd.ntmps19
    go_wp2_with fail
    refine hG.mono ?_
    rintro e w1 ⟨rfl, hb1⟩
    go_wp2_with fail
    refine (scheduleText_any A c l _ ((hl.below hb1).more hb1.size) H1.out (tab_below ht hb1)).mono ?_
    rintro e w2 ⟨rfl, hb2⟩
    go_wp2_with fail
    go_ret2
    exact ⟨by rw [Hv.out]; rfl, blw hb1 hb2⟩

end Go.Proofs.YtopfcfedcmpamaaDoor
