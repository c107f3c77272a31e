/- The layer num: MulDiv, Mul, Div, Share, Times: what each call returns; nothing that was there turns. -/
import Derived.Test.YtnobfmlfhaaghaaNumBy
namespace Go.Proofs.Ytnobfmlfhaaghaa
open Go.RowKit
set_option linter.unusedVariables false
set_option linter.unusedSimpArgs false

/-- What MulDiv answers. -/
def mdN (a b c : Int) (up : Bool) : Int := if c = 0 then 0 else fitN (rnd (a * b) c up)
def mdE (a b c : Int) (up : Bool) : Int := if c = 0 then 9 else fitE (rnd (a * b) c up)
theorem fitN_of (v : Int) : (if fitB v then fitN v else 0) = fitN v := by unfold fitN; split <;> rfl
theorem fitE_of (v : Int) : (if fitB v then 0 else 8) = fitE v := rfl

/-- What Share answers. -/
def shN (a b : Int) : Int := if a < 0 ∨ b < a then 0 else if b = 0 then 0 else mdN 1000 a b false
def shE (a b : Int) : Int := if a < 0 ∨ b < a then 2 else if b = 0 then 0 else mdE 1000 a b false

end Go.Proofs.Ytnobfmlfhaaghaa
