/- The reference of the layer num (spillwayref01): by. -/
import Derived.Test.YteghiappanpogaaRefB
namespace Go.Proofs.Yteghiappanpogaa
open Go.RowKit
set_option linter.unusedVariables false
set_option linter.unusedSimpArgs false

/-- The sign that the reference gives a quotient. -/
def rT (q : Bool) (hi lo : Int) : Bool := (!q) && (decide (0 < hi) || decide (0 < lo))

theorem rT_zero {q : Bool} {hi lo d : Int} (h0 : 0 ≤ hi) (l0 : 0 ≤ lo) (m : Int) (up : Bool) :
    sgn (!q) ((hi * 18446744073709551616 + lo) / d + if (hi * 18446744073709551616 + lo) % d ≠ 0 ∧ (!q) ≠ up then 1 else 0) = sgn (rT q hi lo) ((hi * 18446744073709551616 + lo) / d + if (hi * 18446744073709551616 + lo) % d ≠ 0 ∧ (rT q hi lo) ≠ up then 1 else 0) := by
  by_cases h : hi = 0 ∧ lo = 0
  · obtain ⟨rfl, rfl⟩ := h
    cases q <;> simp [rT, sgn]
  · have : rT q hi lo = !q := by
      unfold rT
      have h2 : (decide (0 < hi) || decide (0 < lo)) = true := by simp; omega
      rw [h2]; simp
    rw [this]

theorem by_even' {T up : Bool} {S G Q R : Int} (s : S = 0) (r : R = sgn T (G * 18446744073709551616 + Q + if S ≠ 0 ∧ T ≠ up then 1 else 0)) : R = sgn T (G * 18446744073709551616 + Q) := by
  subst r; simp [s]
theorem by_same {T : Bool} {S G Q R : Int} (s : ¬ S = 0) (r : R = sgn T (G * 18446744073709551616 + Q + if S ≠ 0 ∧ T ≠ T then 1 else 0)) : R = sgn T (G * 18446744073709551616 + Q) := by
  subst r; simp
theorem by_more {T : Bool} {S G Q R : Int} (s : ¬ S = 0) (r : R = sgn T (G * 18446744073709551616 + Q + if S ≠ 0 ∧ T ≠ !T then 1 else 0)) : R = sgn T (G * 18446744073709551616 + Q) + sgn T 1 := by
  subst r; cases T <;> simp [s, sgn] <;> omega

end Go.Proofs.Yteghiappanpogaa
