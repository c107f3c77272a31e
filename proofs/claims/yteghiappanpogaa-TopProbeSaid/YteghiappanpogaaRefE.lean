/- The reference of the layer num (spillwayref01): Sub, Div, Share: what each call returns; nothing that was there turns. -/
import Derived.Test.YteghiappanpogaaRefD
namespace Go.Proofs.Yteghiappanpogaa
open Go.RowKit
set_option linter.unusedVariables false
set_option linter.unusedSimpArgs false

end Go.Proofs.Yteghiappanpogaa
