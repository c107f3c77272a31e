import Derived.OwnWalk
import Derived.Laws.AppendOwn
import Derived.Laws.OwnMore
import Derived.Laws.AppendOwnNone
import Derived.Test.YtemlafbkkaloiaaGreatFlow
import Derived.Test.YtemlafbkkaloiaaGreatGRecs
namespace Go.Proofs.YtemlafbkkaloiaaGreat
open Go.RowKit
set_option linter.unusedVariables false
set_option linter.unusedSimpArgs false
end Go.Proofs.YtemlafbkkaloiaaGreat
