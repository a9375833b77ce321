/- The law of JoinStrings, walked. -/
import Derived.Test.YtebomppjcaahpaaJc
import Derived.Test.YtebomppjcaahpaaO
namespace Go.Proofs.Ytebomppjcaahpaa
set_option linter.unusedVariables false
set_option linter.unusedSimpArgs false
open Go.RowKit
attribute [local go_sem] Aft.cell

section
open Go.ChangeShapes Go.WideShapes
theorem open_StrS {H : Type} {enc : TypeId × Value → H} {w : World} {base b0 : Nat} {spare : Nat → Bool} {held : Bool} {r : Reach} {v : Value} {d : DataW H} {ps : List MemPlace}
    (hval : Value.okWide Try.prog w r b0 22 v) (h : DataW.Trod enc Try.prog w base spare held 22 v d ps) : ∃ (A : Option Addr) (c : Nat) (l : List ByteArray), v = .slice A l.length c ∧ okSl w encStr 1 (fun s : ByteArray => s.size ≤ maxLen) A l := by
  obtain ⟨A, n, c, rfl⟩ := okWide_slice Try.underlying22 hval
  obtain ⟨fuel, hf⟩ := h
  obtain ⟨l, rfl, h1, h2, h3, h4⟩ := slice_at (en := encStr) (ok := fun s : ByteArray => s.size ≤ maxLen) Try.underlying22 (sz := 1) (by kernel_rfl) (by omega) (fun n cs y hh => by
    obtain ⟨k, e, _, hw⟩ := DataW.trod_string Try.underlying9 hh
    exact ⟨k, e, hw⟩) hf
  exact ⟨A, c, l, rfl, h3, h4, by omega⟩
end

set_option maxHeartbeats 4000000 in
theorem walk_FnExactJoinStrings (A0 : Option Addr) (c0 : Nat) (a0 : List ByteArray) (a1 : ByteArray) (w : World) (ok0 : okSl w encStr 1 (fun s : ByteArray => s.size ≤ maxLen) A0 a0) (ok1 : a1.size ≤ maxLen) :
    Calls Try.prog 3 #[.slice A0 a0.length c0, .string a1] w fun e w' => e = .returned (.bool true) ∧ Below w.heap.size w w' := by
  obtain ⟨hl0, hok0, hmx0⟩ := ok0
  have hst1 : a1.size ≤ 9223372036854775807 := by unfold maxLen at ok1; omega
  by_cases hs1 : a1.size ≤ 1048576
  · have h0 : Below w.heap.size w w := Below.refl _ _
    go_enter Try.func3, Try.ntmps3
    go_wp2_with fail
    refine (szStringS_sz _ _ a0 _ _ ((hl0.below h0).more h0.size) hmx0 hok0 (by omega) (by omega)).mono ?_
    rintro e w1 ⟨r1, rfl, hra1, hrb1, hrp1, hb1⟩
    have h1 := blw h0 hb1
    by_cases hneg1 : r1 < 0
    · clear hrp1
      go_wp2_with fail
      go_ret
      exact ⟨rfl, h1⟩
    have hn0 := hrp1 (by omega)
    clear hrp1
    have hnn0 : a0.length ≤ 1048576 := by omega
    have Hn0 := Lib.hid hn0
    clear hn0
    go_wp2_with fail
    refine (toStringS_any _ _ a0 _ ((hl0.below h1).more h1.size) hnn0).mono ?_
    rintro e w2 ⟨g_s, gl_s, rfl, o_s, hb2⟩
    have h2 := blw h1 hb2
    go_wp2_with fail
    refine (c_spec_JoinStrings _ _ a0 _ _ (o_s.ls encStr_len) Hn0.out hst1).mono ?_
    rintro e w3 ⟨rfl, hb3⟩
    have h3 := blw h2 hb3
    clear o_s
    go_wp2_with fail
    refine (toStringS_any _ _ a0 _ ((hl0.below h3).more h3.size) hnn0).mono ?_
    rintro e w4 ⟨g_x, gl_x, rfl, o_x, hb4⟩
    have h4 := blw h3 hb4
    go_wp2_with fail
    refine (c_impl_JoinStrings _ _ a0 _ _ (o_x.ls encStr_len) Hn0.out (Nat.le_refl _) hst1).mono ?_
    rintro e w5 ⟨rfl, hb5⟩
    have h5 := blw h4 hb5
    replace o_x := o_x.below hb5 o_x.lt
    go_wp2_with fail
    refine (toStringS_any _ _ a0 _ ((hl0.below h5).more h5.size) hnn0).mono ?_
    rintro e w6 ⟨g_t, gl_t, rfl, o_t, hb6⟩
    have h6 := blw h5 hb6
    replace o_x := o_x.below hb6 o_x.lt
    go_wp2_with fail
    refine (eqStringS_any _ _ _ _ a0 _ (o_x.ls encStr_len) (o_t.ls encStr_len) (by omega)).mono ?_
    rintro e w7 ⟨rfl, hb7⟩
    have h7 := blw h6 hb7
    go_wp2_with fail
    go_ret
    exact ⟨rfl, h7⟩
  · have hs2 : 1048576 < a1.size := by omega
    go_enter Try.func3, Try.ntmps3
    go_wp2_with fail
    go_ret
    exact ⟨rfl, Below.refl _ _⟩

end Go.Proofs.Ytebomppjcaahpaa
