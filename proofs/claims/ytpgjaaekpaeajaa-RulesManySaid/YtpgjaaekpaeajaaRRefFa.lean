/- The reference's Flow. -/
import Derived.Test.YtpgjaaekpaeajaaRRefF0
import Derived.Test.YtpgjaaekpaeajaaRRefF1
import Derived.Test.YtpgjaaekpaeajaaRRefF2
import Derived.Test.YtpgjaaekpaeajaaRRefF3
namespace Go.Proofs.Ytpgjaaekpaeajaa
open Go.RowKit
theorem r7flow_any (f : FlowS) (z0 : f.res.size ≤ maxLen) (z1 : f.org.size ≤ maxLen) (z2 : f.ref.size ≤ maxLen) (hs0 : 0 ≤ f.strat) (hh0 : 0 ≤ f.shape) (w : World) : Calls Try.prog 57 #[f.v] w fun e w' => e = .returned (.int .i64 (flowE f)) ∧ Below w.heap.size w w' := by
  rcases (show f.strat = 0 ∨ f.strat = 1 ∨ f.strat = 2 ∨ 2 < f.strat by omega) with h | h | h | h
  · exact r7flow0_any f z0 z1 z2 h hh0 w
  · exact r7flow1_any f z0 z1 z2 h hh0 w
  · exact r7flow2_any f z0 z1 z2 h hh0 w
  · exact r7flow3_any f z0 z1 z2 h hh0 w
end Go.Proofs.Ytpgjaaekpaeajaa
