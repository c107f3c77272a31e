/- The layer num: a number of 128 bits by a number, rounded: 'by'. -/
import Derived.Test.YtnobfmlfhaaghaaNumWide
import Derived.Test.YtnobfmlfhaaghaaBits
namespace Go.Proofs.Ytnobfmlfhaaghaa
open Go.RowKit
set_option linter.unusedVariables false
set_option linter.unusedSimpArgs false

/-- A quotient rounded, in sizes: c's own size d, the quotient and what is left of the sizes. -/
theorem rnd_pos (M d : Int) (hM : 0 ≤ M) (hd : 0 < d) (b up : Bool) :
    rnd (sgn b M) d up = sgn b (M / d + if M % d ≠ 0 ∧ b ≠ up then 1 else 0) := by
  have m0 := Int.mul_ediv_add_emod M d
  have m1 := Int.emod_nonneg M (show d ≠ 0 by omega)
  have m2 := Int.emod_lt_of_pos M hd
  have hneg : (-M) / d = -(M / d) - if M % d ≠ 0 then 1 else 0 := by
    by_cases h : M % d = 0
    · simp only [h, ne_eq, not_true_eq_false, if_false]
      rw [Int.neg_ediv_of_dvd (Int.dvd_of_emod_eq_zero h)]; omega
    · rw [if_pos h, Int.neg_ediv, if_neg (fun hh => h (Int.emod_eq_zero_of_dvd hh)), Int.sign_eq_one_of_pos hd]
  have f1 : M.fdiv d = M / d := Int.fdiv_eq_ediv_of_nonneg _ (by omega)
  have f2 : (-M).fdiv d = (-M) / d := Int.fdiv_eq_ediv_of_nonneg _ (by omega)
  cases b <;> cases up <;> simp only [rnd, sgn, f1, f2, hneg, Int.neg_neg] <;> by_cases h : M % d = 0 <;> simp [h] <;> omega

theorem rnd_by (M c : Int) (hM : 0 ≤ M) (hc : c ≠ 0) (b up : Bool) :
    rnd (sgn b M) c up = sgn (b != decide (c < 0)) (M / (c.natAbs : Int) + if M % (c.natAbs : Int) ≠ 0 ∧ (b != decide (c < 0)) ≠ up then 1 else 0) := by
  by_cases h : c < 0
  · have e : rnd (sgn b M) c up = rnd (sgn (!b) M) (-c) up := by
      have k1 : (sgn b M) = -(sgn (!b) M) := by cases b <;> simp [sgn]
      have k2 : c = -(-c) := by omega
      unfold rnd
      rw [k1, Int.neg_neg]
      conv => lhs; rw [k2]
      rw [Int.neg_fdiv_neg]
      have : (sgn (!b) M).fdiv (- -c) = (-(sgn (!b) M)).fdiv (-c) := by rw [← Int.neg_fdiv_neg, Int.neg_neg]
      rw [this]
    have hn : (c.natAbs : Int) = -c := by omega
    rw [e, rnd_pos M (-c) hM (by omega), hn]
    simp [h]
  · have hn : (c.natAbs : Int) = c := by omega
    rw [rnd_pos M c hM (by omega), hn]
    simp [h]

/-- The words of a quotient. -/
theorem quo_words (hi lo d : Int) (h0 : 0 ≤ hi) (l0 : 0 ≤ lo) (hd : 0 < d) :
    (hi * 18446744073709551616 + lo) / d = hi / d * 18446744073709551616 + (hi % d * 18446744073709551616 + lo) / d ∧ (hi * 18446744073709551616 + lo) % d = (hi % d * 18446744073709551616 + lo) % d := by
  have m0 := Int.mul_ediv_add_emod hi d
  have e : hi * 18446744073709551616 + lo = (hi % d * 18446744073709551616 + lo) + d * (hi / d * 18446744073709551616) := by
    have : d * (hi / d * 18446744073709551616) = d * (hi / d) * 18446744073709551616 := by rw [Int.mul_assoc]
    rw [this]; omega
  constructor
  · rw [e, Int.add_mul_ediv_left _ _ (by omega)]; omega
  · rw [e, Int.add_mul_emod_self_left]

theorem by_up {q up : Bool} {S G Q R : Int} (t : (!(!q) == up) = true) (s : S ≠ 0) (r : R = sgn (!q) (G * 18446744073709551616 + Q + if S ≠ 0 ∧ (!q) ≠ up then 1 else 0)) : R = sgn (!q) (G * 18446744073709551616 + Q + 1) := by
  subst r; cases q <;> cases up <;> simp_all
theorem by_down {q up : Bool} {S G Q R : Int} (t : (!(!q) == up) = false) (r : R = sgn (!q) (G * 18446744073709551616 + Q + if S ≠ 0 ∧ (!q) ≠ up then 1 else 0)) : R = sgn (!q) (G * 18446744073709551616 + Q) := by
  subst r; cases q <;> cases up <;> simp_all
theorem by_even {q up : Bool} {S G Q R : Int} (s : S = 0) (r : R = sgn (!q) (G * 18446744073709551616 + Q + if S ≠ 0 ∧ (!q) ≠ up then 1 else 0)) : R = sgn (!q) (G * 18446744073709551616 + Q) := by
  subst r; simp [s]

end Go.Proofs.Ytnobfmlfhaaghaa
