/- math/bits.Add64 and Sub64 over Int, at this program's numbers. -/
import Derived.Test.YtogdnacambjhpaaShelf
import Derived.ProofKit
namespace Go.Proofs.Ytogdnacambjhpaa
open Go.RowKit
end Go.Proofs.Ytogdnacambjhpaa
