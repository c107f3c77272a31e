/- The reference of the layer num (spillwayref01): Add, Sub, Mul, Div, MulDiv, Share, Times: what each call returns; nothing that was there turns. -/
import Derived.Test.YteghiappanpogaaRefC
namespace Go.Proofs.Yteghiappanpogaa
open Go.RowKit
set_option linter.unusedVariables false
set_option linter.unusedSimpArgs false

/-- The words of a number of 128 bits are small where the number is. -/
theorem wide_small {b : Bool} {hi lo v : Int} (h0 : 0 ≤ hi) (l0 : 0 ≤ lo) (l1 : lo < 18446744073709551616) (hv : sgn b (hi * 18446744073709551616 + lo) = v) (a : -170141183460469231731687303715884105728 < v) (c : v < 170141183460469231731687303715884105728) : hi < 9223372036854775808 := by
  cases b <;> simp [sgn] at hv <;> omega



theorem abs_prod {a b : Int} (a0 : -9223372036854775808 ≤ a) (a1 : a ≤ 9223372036854775807) (b0 : -9223372036854775808 ≤ b) (b1 : b ≤ 9223372036854775807) : -170141183460469231731687303715884105728 < a * b ∧ a * b < 170141183460469231731687303715884105728 := by
  have h := prod_bound a b a0 a1 b0 b1
  have h2 : ((a * b).natAbs : Int) = ((a.natAbs * b.natAbs : Nat) : Int) := by rw [Int.natAbs_mul]
  omega


end Go.Proofs.Yteghiappanpogaa
