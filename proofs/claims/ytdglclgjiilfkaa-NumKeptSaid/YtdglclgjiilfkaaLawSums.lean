/- NumSums, NumWide, NumWithin: the walks. -/
import Derived.Test.YtdglclgjiilfkaaNumLive
namespace Go.Proofs.Ytdglclgjiilfkaa
open Go.RowKit
set_option linter.unusedVariables false
set_option linter.unusedSimpArgs false

theorem wf64 {n : Int} (h : (Lit.int .i64 n).wf = true) : -9223372036854775808 ≤ n ∧ n ≤ 9223372036854775807 := by
  simp only [Lit.wf, IntKind.min, IntKind.max, IntKind.signed, IntKind.bits, Bool.and_eq_true, decide_eq_true_eq, if_true] at h
  omega

set_option maxHeartbeats 1600000 in
theorem sums_walk (a : Int) (wa : (Lit.int .i64 a).wf = true) (b : Int) (wb : (Lit.int .i64 b).wf = true) (up : Bool) (w : World) :
    Calls Try.prog 4 #[.int .i64 a, .int .i64 b, .bool up] w fun e w' => e = .returned (.bool true) ∧ Below w.heap.size w w' := by
  obtain ⟨a0, a1⟩ := wf64 wa
  obtain ⟨b0, b1⟩ := wf64 wb
  clear wa wb
  go_enter Try.func4, Try.ntmps4
  go_wp2_with (fail)
  refine (add_any a b _ a0 a1 b0 b1).mono ?_
  rintro e w1 ⟨rfl, rfl⟩
  go_wp2_with (fail)
  refine (radd_any a b _ a0 a1 b0 b1).mono ?_
  rintro e w2 ⟨rfl, hb2⟩
  go_wp2_with (fail)
  refine (live_any _).mono ?_
  rintro e w3 ⟨rfl, hb3⟩
  go_wp2_with (fail)
  refine (same_any _ _ _ _ _).mono ?_
  rintro e w4 ⟨rfl, rfl⟩
  simp only [beq_self_eq_true, Bool.and_self]
  go_wp2_with (fail)
  refine (sub_any a b _ a0 a1 b0 b1).mono ?_
  rintro e w5 ⟨rfl, rfl⟩
  go_wp2_with (fail)
  refine (rsub_any a b _ a0 a1 b0 b1).mono ?_
  rintro e w6 ⟨rfl, hb6⟩
  go_wp2_with (fail)
  refine (same_any _ _ _ _ _).mono ?_
  rintro e w7 ⟨rfl, rfl⟩
  simp only [beq_self_eq_true, Bool.and_self]
  go_wp2_with (fail)
  refine (mul_any a b _ a0 a1 b0 b1).mono ?_
  rintro e w8 ⟨rfl, hb8⟩
  go_wp2_with (fail)
  refine (rmul_any a b _ a0 a1 b0 b1).mono ?_
  rintro e w9 ⟨rfl, hb9⟩
  go_wp2_with (fail)
  refine (same_any _ _ _ _ _).mono ?_
  rintro e w10 ⟨rfl, rfl⟩
  simp only [beq_self_eq_true, Bool.and_self]
  go_wp2_with (fail)
  refine (div_any a b up _ a0 a1 b0 b1).mono ?_
  rintro e w11 ⟨rfl, hb11⟩
  go_wp2_with (fail)
  refine (rdiv_any a b up _ a0 a1 b0 b1).mono ?_
  rintro e w12 ⟨rfl, hb12⟩
  go_wp2_with (fail)
  refine (same_any _ _ _ _ _).mono ?_
  rintro e w13 ⟨rfl, rfl⟩
  simp only [beq_self_eq_true, Bool.and_self]
  go_wp2_with (fail)
  go_ret
  have B3 := hb2.trans (hb3.mono hb2.size)
  have B6 := B3.trans (hb6.mono B3.size)
  have B8 := B6.trans (hb8.mono B6.size)
  have B9 := B8.trans (hb9.mono B8.size)
  have B11 := B9.trans (hb11.mono B9.size)
  exact ⟨rfl, B11.trans (hb12.mono B11.size)⟩
end Go.Proofs.Ytdglclgjiilfkaa
