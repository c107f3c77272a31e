/- The reference of the layer num (spillwayref01): Add, Sub, Mul, Div, MulDiv, Share, Times: what each call returns; nothing that was there turns. -/
import Derived.Test.YtalpilahemajoaaRefC
namespace Go.Proofs.Ytalpilahemajoaa
open Go.RowKit
set_option linter.unusedVariables false
set_option linter.unusedSimpArgs false

/-- The words of a number of 128 bits are small where the number is. -/
theorem wide_small {b : Bool} {hi lo v : Int} (h0 : 0 ≤ hi) (l0 : 0 ≤ lo) (l1 : lo < 18446744073709551616) (hv : sgn b (hi * 18446744073709551616 + lo) = v) (a : -170141183460469231731687303715884105728 < v) (c : v < 170141183460469231731687303715884105728) : hi < 9223372036854775808 := by
  cases b <;> simp [sgn] at hv <;> omega

set_option maxHeartbeats 400000 in
theorem radd_any (a b : Int) (w : World) (a0 : -9223372036854775808 ≤ a) (a1 : a ≤ 9223372036854775807) (b0 : -9223372036854775808 ≤ b) (b1 : b ≤ 9223372036854775807) :
    Calls Try.prog 19 #[.int .i64 a, .int .i64 b] w fun e w' => e = .returned (.tuple #[.int .i64 (fitN (a + b)), .int .i64 (fitE (a + b))]) ∧ Below w.heap.size w w' := by
  go_enter Try.func19, Try.ntmps19
  go_wp2_with (fail)
  refine (of_wide a _ a0 a1).mono ?_
  rintro e w1 ⟨p, ph, pl, rfl, p0, p1, p2, p3, pv, hb1⟩
  have ph0 := wide_small p0 p2 p3 pv (by omega) (by omega)
  have Pv := Lib.hid pv
  clear pv
  go_wp2_with (fail)
  refine (of_wide b _ b0 b1).mono ?_
  rintro e w2 ⟨q, qh, ql, rfl, q0, q1, q2, q3, qv, hb2⟩
  have qh0 := wide_small q0 q2 q3 qv (by omega) (by omega)
  have Qv := Lib.hid qv
  clear qv
  go_wp2_with (fail)
  refine (plus_any p ph pl q qh ql _ p0 p1 p2 p3 q0 q1 q2 q3 (by omega)).mono ?_
  rintro e w3 ⟨r, rh, rl, rfl, r0, r1, r2, r3, rv, hb3⟩
  have Rv := Lib.hid rv
  clear rv
  go_wp2_with (fail)
  refine (small_any r rh rl _ r0 r1 r2 r3).mono ?_
  rintro e w4 ⟨rfl, hb4⟩
  rw [Rv.out, Pv.out, Qv.out]
  go_wp2_with (fail)
  refine (rtold_any _ _ _).mono ?_
  rintro e w5 ⟨rfl, rfl⟩
  rw [fitN_of, fitE_of]
  go_wp2_with (fail)
  go_ret2
  have B2 := hb1.trans (hb2.mono hb1.size)
  have B3 := B2.trans (hb3.mono B2.size)
  exact ⟨rfl, B3.trans (hb4.mono B3.size)⟩


theorem abs_prod {a b : Int} (a0 : -9223372036854775808 ≤ a) (a1 : a ≤ 9223372036854775807) (b0 : -9223372036854775808 ≤ b) (b1 : b ≤ 9223372036854775807) : -170141183460469231731687303715884105728 < a * b ∧ a * b < 170141183460469231731687303715884105728 := by
  have h := prod_bound a b a0 a1 b0 b1
  have h2 : ((a * b).natAbs : Int) = ((a.natAbs * b.natAbs : Nat) : Int) := by rw [Int.natAbs_mul]
  omega


end Go.Proofs.Ytalpilahemajoaa
