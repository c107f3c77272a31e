/- The laws of the layer pacing: live, PacingNone. -/
import Derived.Test.YtfednlooepicaaaPacB
namespace Go.Proofs.Ytfednlooepicaaa
open Go.RowKit
set_option linter.unusedVariables false
set_option linter.unusedSimpArgs false

theorem below_of_own {w w1 w2 : World} {b : Nat} (h : Below w.heap.size w w1) (hb : w.heap.size ≤ b) (hg : w1.grownBy w2 (some b)) : Below w.heap.size w w2 :=
  h.grown hg h.size (fun k e => by cases e; exact hb)

set_option maxHeartbeats 1600000 in
theorem plive_any (w : World) : Calls Try.prog 8 #[] w fun e w' => e = .returned (.bool true) ∧ Below w.heap.size w w' := by
  have ok0 : PaceOk ⟨0, false, 10, 200000, 0⟩ := ⟨by decide, by decide, by decide, by decide, by decide, by decide, by decide, by decide⟩
  have g0 : gone ⟨0, false, 10, 200000, 0⟩ 0 1 10 = ⟨0, true, 10, 200000, 0⟩ := by kernel_rfl
  have g1 : gone ⟨0, true, 10, 200000, 0⟩ 0 1 10 = ⟨100000, true, 10, 200000, 0⟩ := by kernel_rfl
  have g2 : gone ⟨100000, true, 10, 200000, 0⟩ 0 1 10 = ⟨200000, true, 10, 200000, 0⟩ := by kernel_rfl
  have w0 : askW ⟨0, false, 10, 200000, 0⟩ 0 1 10 = 0 := by kernel_rfl
  have b0 : askB ⟨0, false, 10, 200000, 0⟩ 0 1 10 = true := by kernel_rfl
  have w1 : askW ⟨0, true, 10, 200000, 0⟩ 0 1 10 = 100000 := by kernel_rfl
  have b1 : askB ⟨0, true, 10, 200000, 0⟩ 0 1 10 = true := by kernel_rfl
  have b3 : askB ⟨200000, true, 10, 200000, 0⟩ 0 1 10 = false := by kernel_rfl
  have e3 : askE ⟨200000, true, 10, 200000, 0⟩ 0 1 10 = 0 := by kernel_rfl
  have ok1 := gone_ok ok0 0 1 10
  rw [g0] at ok1
  have ok2 := gone_ok ok1 0 1 10
  rw [g1] at ok2
  have ok3 := gone_ok ok2 0 1 10
  rw [g2] at ok3
  have H0 := Lib.hid ok0
  have H1 := Lib.hid ok1
  have H2 := Lib.hid ok2
  have H3 := Lib.hid ok3
  have G0 := Lib.hid g0
  have G1 := Lib.hid g1
  have G2 := Lib.hid g2
  have W0 := Lib.hid w0
  have W1 := Lib.hid w1
  have B0 := Lib.hid b0
  have B1 := Lib.hid b1
  have B3 := Lib.hid b3
  have E3 := Lib.hid e3
  clear ok0 ok1 ok2 ok3 g0 g1 g2 w0 w1 b0 b1 b3 e3
  go_enter Try.func8, Try.ntmps8
  go_wp2_with (fail)
  refine (pnew_any 10 200000 _ (by decide) (by decide) (by decide) (by decide)).mono ?_
  rintro e v1 (⟨_, b, rfl, hb, hp, hbel⟩ | ⟨hn, _⟩)
  · have lt := hp.lt
    have HP := Lib.hid hp
    clear hp
    go_wp2_with (fail)
    refine (go_any b _ 0 1 _ HP.out H0.out (by decide) (by decide) (by decide) (by decide)).mono ?_
    rintro e v2 ⟨rfl, hp2, hg2⟩
    dsimp only at hp2
    rw [G0.out] at hp2
    dsimp only
    rw [W0.out, B0.out]
    have HP2 := Lib.hid hp2
    have L2 := below_of_own hbel hb hg2
    clear hp2
    go_wp2_with (fail)
    refine (go_any b _ 0 1 _ HP2.out H1.out (by decide) (by decide) (by decide) (by decide)).mono ?_
    rintro e v3 ⟨rfl, hp3, hg3⟩
    dsimp only at hp3
    rw [G1.out] at hp3
    dsimp only
    rw [W1.out, B1.out]
    have HP3 := Lib.hid hp3
    have L3 := below_of_own L2 hb hg3
    clear hp3
    go_wp2_with (fail)
    refine (go_any b _ 0 1 _ HP3.out H2.out (by decide) (by decide) (by decide) (by decide)).mono ?_
    rintro e v4 ⟨rfl, hp4, hg4⟩
    dsimp only at hp4
    rw [G2.out] at hp4
    have HP4 := Lib.hid hp4
    have L4 := below_of_own L3 hb hg4
    clear hp4
    go_wp2_with (fail)
    refine (go_any b _ 0 1 _ HP4.out H3.out (by decide) (by decide) (by decide) (by decide)).mono ?_
    rintro e v5 ⟨rfl, hp5, hg5⟩
    dsimp only
    rw [B3.out, E3.out]
    have L5 := below_of_own L4 hb hg5
    clear hp5
    go_wp2_with (fail)
    go_ret
    exact ⟨rfl, L5⟩
  · exfalso; exact hn ⟨by decide, by decide, by decide, by decide⟩

theorem wf64 {n : Int} (h : (Lit.int .i64 n).wf = true) : -9223372036854775808 ≤ n ∧ n ≤ 9223372036854775807 := by
  simp only [Lit.wf, IntKind.min, IntKind.max, IntKind.signed, IntKind.bits, Bool.and_eq_true, decide_eq_true_eq, if_true] at h
  omega

set_option maxHeartbeats 1600000 in
theorem pnone_walk (w : World) (a : Int) (wa : (Lit.int .i64 a).wf = true) (c : Int) (wc : (Lit.int .i64 c).wf = true) (r : Int) (wr : (Lit.int .i64 r).wf = true) :
    Calls Try.prog 5 #[.int .i64 a, .int .i64 c, .int .i64 r] w fun e w' => e = .returned (.bool true) ∧ Below w.heap.size w w' := by
  clear wa wc wr
  go_enter Try.func5, Try.ntmps5
  go_wp2_with (fail)
  refine (look_nil a c _).mono ?_
  rintro e w1 ⟨rfl, h1⟩
  go_wp2_with (fail)
  refine (go_nil a c _).mono ?_
  rintro e w2 ⟨rfl, h2⟩
  go_wp2_with (fail)
  refine (at_nil a c r _).mono ?_
  rintro e w3 ⟨rfl, h3⟩
  go_wp2_with (fail)
  refine (pnext_nil _).mono ?_
  rintro e w4 ⟨rfl, rfl⟩
  go_wp2_with (fail)
  refine (plive_any _).mono ?_
  rintro e w5 ⟨rfl, h5⟩
  go_wp2_with (fail)
  refine (pfork_nil _).mono ?_
  rintro e w6 ⟨rfl, rfl⟩
  go_wp2_with (fail)
  go_ret
  have B2 := h1.trans (h2.mono h1.size)
  have B3 := B2.trans (h3.mono B2.size)
  exact ⟨rfl, B3.trans (h5.mono B3.size)⟩
end Go.Proofs.Ytfednlooepicaaa
