/- The reference of the layer num (spillwayref01): kept, product, by: what each call returns; nothing that was there turns. -/
import Derived.Test.YteghiappanpogaaRefA
import Derived.Deep.RegionWith
namespace Go.Proofs.Yteghiappanpogaa
open Go.RowKit
set_option linter.unusedVariables false
set_option linter.unusedSimpArgs false

end Go.Proofs.Yteghiappanpogaa
