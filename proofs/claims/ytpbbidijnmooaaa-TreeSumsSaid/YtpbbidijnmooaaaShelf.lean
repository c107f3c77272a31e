import Derived.Shelf.Slices.Turned
import Derived.Test.YtpbbidijnmooaaaProg
namespace Go.Proofs.Ytpbbidijnmooaaa
end Go.Proofs.Ytpbbidijnmooaaa
