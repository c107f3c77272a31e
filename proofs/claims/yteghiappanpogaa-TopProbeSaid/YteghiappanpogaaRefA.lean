/- The reference of the layer num (spillwayref01), its leaves: size, Of, told, small, plus, product, Within: what each call returns; nothing that was there turns. -/
import Derived.Test.YteghiappanpogaaNumOps
namespace Go.Proofs.Yteghiappanpogaa
open Go.RowKit
set_option linter.unusedVariables false
set_option linter.unusedSimpArgs false

/-- A number of 128 bits of the reference's came back. -/
def RefW (v : Int) (w : World) (e : Ending) (w' : World) : Prop :=
  ∃ (b : Bool) (hi lo : Int), e = .returned (.agg #[.bool b, .int .u64 hi, .int .u64 lo]) ∧ 0 ≤ hi ∧ hi < 18446744073709551616 ∧ 0 ≤ lo ∧ lo < 18446744073709551616 ∧ sgn b (hi * 18446744073709551616 + lo) = v ∧ Below w.heap.size w w'


end Go.Proofs.Yteghiappanpogaa
