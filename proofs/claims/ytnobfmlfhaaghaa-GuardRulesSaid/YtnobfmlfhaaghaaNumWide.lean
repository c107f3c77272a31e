/- The layer num, numbers of 128 bits: product, by, Mul, MulDiv, Div, Share, Times: what each call returns; nothing that was there turns. -/
import Derived.Test.YtnobfmlfhaaghaaNumWalks
namespace Go.Proofs.Ytnobfmlfhaaghaa
open Go.RowKit
set_option linter.unusedVariables false

theorem bcell {W w1 : World} (hb : Below W.heap.size W w1) : (∀ b o, b < W.heap.size → w1.cell? ⟨b, o, none⟩ = W.cell? ⟨b, o, none⟩) ∧ (∀ b o, b < W.heap.size → w1.frozen? ⟨b, o, none⟩ = W.frozen? ⟨b, o, none⟩) :=
  ⟨fun b o h => hb.cell (p := ⟨b, o, none⟩) h, fun b o h => hb.frozen (p := ⟨b, o, none⟩) h⟩

/-- A number of 128 bits came back: its words, and whether it is below 0. -/
def WideOf (v : Int) (w : World) (e : Ending) (w' : World) : Prop :=
  ∃ (hi lo : Int) (b : Bool), e = .returned (.agg #[.int .u64 hi, .int .u64 lo, .bool b]) ∧ 0 ≤ hi ∧ hi < 18446744073709551616 ∧ 0 ≤ lo ∧ lo < 18446744073709551616 ∧ sgn b (hi * 18446744073709551616 + lo) = v ∧ b = decide (v < 0) ∧ Below w.heap.size w w'

theorem prod_bound (a b : Int) (a0 : -9223372036854775808 ≤ a) (a1 : a ≤ 9223372036854775807) (b0 : -9223372036854775808 ≤ b) (b1 : b ≤ 9223372036854775807) :
    a.natAbs * b.natAbs ≤ 9223372036854775808 * 9223372036854775808 := Nat.mul_le_mul (by omega) (by omega)

theorem or_zero (h l : Nat) (hh : h < 18446744073709551616) (hl : l < 18446744073709551616) : bits .or .u64 (h : Int) (l : Int) = 0 ↔ h = 0 ∧ l = 0 := by
  rw [u64_or_nat h l hh hl]
  have : (((h ||| l : Nat) : Int) = 0) ↔ (h ||| l) = 0 := by omega
  rw [this, Nat.or_eq_zero_iff]

end Go.Proofs.Ytnobfmlfhaaghaa
