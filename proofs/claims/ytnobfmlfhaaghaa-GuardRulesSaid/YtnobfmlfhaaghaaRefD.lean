/- The reference of the layer num (spillwayref01): Add, Sub, Mul, Div, MulDiv, Share, Times: what each call returns; nothing that was there turns. -/
import Derived.Test.YtnobfmlfhaaghaaRefC
namespace Go.Proofs.Ytnobfmlfhaaghaa
open Go.RowKit
set_option linter.unusedVariables false
set_option linter.unusedSimpArgs false

/-- The words of a number of 128 bits are small where the number is. -/
theorem wide_small {b : Bool} {hi lo v : Int} (h0 : 0 ≤ hi) (l0 : 0 ≤ lo) (l1 : lo < 18446744073709551616) (hv : sgn b (hi * 18446744073709551616 + lo) = v) (a : -170141183460469231731687303715884105728 < v) (c : v < 170141183460469231731687303715884105728) : hi < 9223372036854775808 := by
  cases b <;> simp [sgn] at hv <;> omega



theorem abs_prod {a b : Int} (a0 : -9223372036854775808 ≤ a) (a1 : a ≤ 9223372036854775807) (b0 : -9223372036854775808 ≤ b) (b1 : b ≤ 9223372036854775807) : -170141183460469231731687303715884105728 < a * b ∧ a * b < 170141183460469231731687303715884105728 := by
  have h := prod_bound a b a0 a1 b0 b1
  have h2 : ((a * b).natAbs : Int) = ((a.natAbs * b.natAbs : Nat) : Int) := by rw [Int.natAbs_mul]
  omega

set_option maxHeartbeats 400000 in
theorem rmuldiv_any (a b c : Int) (up : Bool) (w : World) (a0 : -9223372036854775808 ≤ a) (a1 : a ≤ 9223372036854775807) (b0 : -9223372036854775808 ≤ b) (b1 : b ≤ 9223372036854775807) (c0 : -9223372036854775808 ≤ c) (c1 : c ≤ 9223372036854775807) :
    Calls Try.prog 46 #[.int .i64 a, .int .i64 b, .int .i64 c, .bool up] w fun e w' => e = .returned (.tuple #[.int .i64 (mdN a b c up), .int .i64 (mdE a b c up)]) ∧ Below w.heap.size w w' := by
  have hp := abs_prod a0 a1 b0 b1
  have Hp := Lib.hid hp
  clear hp
  by_cases cz : c = 0
  · have e1 := Lib.hid (show mdN a b c up = 0 by simp [mdN, cz])
    have e2 := Lib.hid (show mdE a b c up = 9 by simp [mdE, cz])
    rw [e1.out, e2.out]
    have cb : (c == 0) = true := by simpa using cz
    clear cz
    go_enter Try.func46, Try.ntmps46
    go_wp2_with (fail)
    go_ret2
    exact ⟨rfl, Below.refl _ _⟩
  · have e1 := Lib.hid (show mdN a b c up = fitN (rnd (a * b) c up) by simp [mdN, cz])
    have e2 := Lib.hid (show mdE a b c up = fitE (rnd (a * b) c up) by simp [mdE, cz])
    rw [e1.out, e2.out]
    have cb : (c == 0) = false := by simpa using cz
    go_enter Try.func46, Try.ntmps46
    go_wp2_with (fail)
    refine (rproduct_any a b _ a0 a1 b0 b1).mono ?_
    rintro e w1 ⟨bb, hi, lo, rfl, h0, h1, l0, l1, hv, hb1⟩
    have hi0 := wide_small h0 l0 l1 hv Hp.out.1 Hp.out.2
    have Hv := Lib.hid hv
    clear hv
    go_wp2_with (fail)
    refine (rby_any bb hi lo c up _ h0 hi0 l0 l1 c0 c1 cz).mono ?_
    rintro e w2 ⟨rfl, hb2⟩
    rw [Hv.out]
    go_wp2_with (fail)
    refine (rtold_any _ _ _).mono ?_
    rintro e w3 ⟨rfl, rfl⟩
    rw [fitN_of, fitE_of]
    go_wp2_with (fail)
    go_ret2
    exact ⟨rfl, hb1.trans (hb2.mono hb1.size)⟩


end Go.Proofs.Ytnobfmlfhaaghaa
