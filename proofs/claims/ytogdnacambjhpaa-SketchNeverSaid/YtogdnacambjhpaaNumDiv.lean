/- math/bits.Div64: the quotient and the remainder of 128 bits by 64, where the quotient has 64 bits. -/
import Derived.Test.YtogdnacambjhpaaShelf
import Derived.Test.YtogdnacambjhpaaNumDivMath
import Derived.WalkKit
import Derived.WalkSpells
import Derived.WalkLawsBesides
import Derived.BigQuiet
import Derived.Deep.QuietTactic
import Derived.Deep.DeepCutAuto
import Derived.Deep.CutBlock
import Derived.Lib.Hide
namespace Go.Proofs.Ytogdnacambjhpaa
open Go.RowKit
set_option linter.unusedVariables false

theorem ret_uu {a b c d : Int} (h : a = b) (h' : c = d) : Ending.returned (.tuple #[.int .u64 a, .int .u64 c]) = .returned (.tuple #[.int .u64 b, .int .u64 d]) := by rw [h, h']

end Go.Proofs.Ytogdnacambjhpaa
