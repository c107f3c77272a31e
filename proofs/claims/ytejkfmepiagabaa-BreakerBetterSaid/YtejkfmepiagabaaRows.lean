/-
  No cell of these rows narrows 'for every input' (looked for: loops, veiled, ifaces, maps, wideKeys, modest, calm, conditions, laid).
  DERIVED. THE GIVEN ROWS OF THIS SEAT. 8 by the template 'for every input the law returns true; each argument reads behind the call as it read before'; 0 by the template 'total and deterministic' (their statements: YtejkfmepiagabaaTotals.lean).
  GIVEN WITH THE SEED: the statements are not yours to turn. If you find one false, say at which input.
  Laid BY PROGRAM, IN A SANDBOX (cutbox-rows.mjs): the forced cells as the released guide's own fill.sh prints them over the translation aae9997cb666c273… (all of the seat's roots in one cut). By AI agents, Wed Nov 11 2026. No macro, syntax, notation, axiom, sorry.
-/
import Derived.Test.YtejkfmepiagabaaChecked
import GoSem.Claim
import GoSem.ClaimJoined
import GoSem.ClaimMapViews
import Derived.JoinedTies
import Derived.KernelRfl
namespace Go.Proofs.Ytejkfmepiagabaa
/- THE CELL 'sum', in the pinned program and in every row, IS THE sha256 OF THE DUMP (.gsa) THAT YtejkfmepiagabaaProg.lean LOADS. Nothing in Lean hashes anything: it is a label: what it is worth is what the hold of that sum in a sandbox is worth. -/
noncomputable def Try.pinned : Pinned := { name := "ytejkfmepiagabaa", sum := "aae9997cb666c27383937fb154a9b6c0bf862a3c63c30c4545a62a443b36cdf2", checked := Try.checked }
namespace Rows
def none {H : Type} : Left H := { results := [], args := [] }

/-- 'spillwaytop.TopSeconds': WHATEVER THE INPUT: true; the input reads as it did. -/
def topSecondsSpec : ChangeSpec := { name := "topSeconds", fn := fun _ => fun
  | [d] => { results := [.lit (.bool true)], args := [d] }
  | _ => none }
def topSecondsRow : OpenClaim := { program := "ytejkfmepiagabaa", sum := "aae9997cb666c27383937fb154a9b6c0bf862a3c63c30c4545a62a443b36cdf2", func := "spillway/spillwaytop.TopSeconds", spec := "topSeconds", unfollowed := true, recurses := true, apart := false }
def TopSecondsSaid : Prop := topSecondsRow.holds Try.pinned (OpenSpec.ofChange topSecondsSpec)

/-- ITS FALSE NEIGHBOUR: 'it returns false'. Refute it at one input. -/
def topSecondsWrong : ChangeSpec := { name := "topSeconds", fn := fun _ => fun
  | [d] => { results := [.lit (.bool false)], args := [d] }
  | _ => none }
def TopSecondsWrongFalsely : Prop := topSecondsRow.holds Try.pinned (OpenSpec.ofChange topSecondsWrong)

/-- 'spillwaylaw04.StatSeconds': WHATEVER THE INPUT: true; the input reads as it did. -/
def statSecondsSpec : ChangeSpec := { name := "statSeconds", fn := fun _ => fun
  | [d] => { results := [.lit (.bool true)], args := [d] }
  | _ => none }
def statSecondsRow : OpenClaim := { program := "ytejkfmepiagabaa", sum := "aae9997cb666c27383937fb154a9b6c0bf862a3c63c30c4545a62a443b36cdf2", func := "spillway/spillwaylaw04.StatSeconds", spec := "statSeconds", unfollowed := true, recurses := true, apart := false }
def StatSecondsSaid : Prop := statSecondsRow.holds Try.pinned (OpenSpec.ofChange statSecondsSpec)

/-- ITS FALSE NEIGHBOUR: 'it returns false'. Refute it at one input. -/
def statSecondsWrong : ChangeSpec := { name := "statSeconds", fn := fun _ => fun
  | [d] => { results := [.lit (.bool false)], args := [d] }
  | _ => none }
def StatSecondsWrongFalsely : Prop := statSecondsRow.holds Try.pinned (OpenSpec.ofChange statSecondsWrong)

/-- 'spillwaylaw04.StatFlight': WHATEVER THE INPUT: true; the input reads as it did. -/
def statFlightSpec : ChangeSpec := { name := "statFlight", fn := fun _ => fun
  | [d] => { results := [.lit (.bool true)], args := [d] }
  | _ => none }
def statFlightRow : OpenClaim := { program := "ytejkfmepiagabaa", sum := "aae9997cb666c27383937fb154a9b6c0bf862a3c63c30c4545a62a443b36cdf2", func := "spillway/spillwaylaw04.StatFlight", spec := "statFlight", unfollowed := true, recurses := true, apart := false }
def StatFlightSaid : Prop := statFlightRow.holds Try.pinned (OpenSpec.ofChange statFlightSpec)

/-- ITS FALSE NEIGHBOUR: 'it returns false'. Refute it at one input. -/
def statFlightWrong : ChangeSpec := { name := "statFlight", fn := fun _ => fun
  | [d] => { results := [.lit (.bool false)], args := [d] }
  | _ => none }
def StatFlightWrongFalsely : Prop := statFlightRow.holds Try.pinned (OpenSpec.ofChange statFlightWrong)

/-- 'spillwaylaw14.BreakerBetter': WHATEVER THE INPUT: true; the input reads as it did. -/
def breakerBetterSpec : ChangeSpec := { name := "breakerBetter", fn := fun _ => fun
  | [d1, d2, d3] => { results := [.lit (.bool true)], args := [d1, d2, d3] }
  | _ => none }
def breakerBetterRow : OpenClaim := { program := "ytejkfmepiagabaa", sum := "aae9997cb666c27383937fb154a9b6c0bf862a3c63c30c4545a62a443b36cdf2", func := "spillway/spillwaylaw14.BreakerBetter", spec := "breakerBetter", unfollowed := true, recurses := true, apart := false }
def BreakerBetterSaid : Prop := breakerBetterRow.holds Try.pinned (OpenSpec.ofChange breakerBetterSpec)

/-- ITS FALSE NEIGHBOUR: 'it returns false'. Refute it at one input. -/
def breakerBetterWrong : ChangeSpec := { name := "breakerBetter", fn := fun _ => fun
  | [d1, d2, d3] => { results := [.lit (.bool false)], args := [d1, d2, d3] }
  | _ => none }
def BreakerBetterWrongFalsely : Prop := breakerBetterRow.holds Try.pinned (OpenSpec.ofChange breakerBetterWrong)

/-- 'spillwaylaw14.BreakerHolds': WHATEVER THE INPUT: true; the input reads as it did. -/
def breakerHoldsSpec : ChangeSpec := { name := "breakerHolds", fn := fun _ => fun
  | [d1, d2] => { results := [.lit (.bool true)], args := [d1, d2] }
  | _ => none }
def breakerHoldsRow : OpenClaim := { program := "ytejkfmepiagabaa", sum := "aae9997cb666c27383937fb154a9b6c0bf862a3c63c30c4545a62a443b36cdf2", func := "spillway/spillwaylaw14.BreakerHolds", spec := "breakerHolds", unfollowed := true, recurses := true, apart := false }
def BreakerHoldsSaid : Prop := breakerHoldsRow.holds Try.pinned (OpenSpec.ofChange breakerHoldsSpec)

/-- ITS FALSE NEIGHBOUR: 'it returns false'. Refute it at one input. -/
def breakerHoldsWrong : ChangeSpec := { name := "breakerHolds", fn := fun _ => fun
  | [d1, d2] => { results := [.lit (.bool false)], args := [d1, d2] }
  | _ => none }
def BreakerHoldsWrongFalsely : Prop := breakerHoldsRow.holds Try.pinned (OpenSpec.ofChange breakerHoldsWrong)

/-- 'spillwaylaw14.BreakerEnds': WHATEVER THE INPUT: true; the input reads as it did. -/
def breakerEndsSpec : ChangeSpec := { name := "breakerEnds", fn := fun _ => fun
  | [d1, d2, d3] => { results := [.lit (.bool true)], args := [d1, d2, d3] }
  | _ => none }
def breakerEndsRow : OpenClaim := { program := "ytejkfmepiagabaa", sum := "aae9997cb666c27383937fb154a9b6c0bf862a3c63c30c4545a62a443b36cdf2", func := "spillway/spillwaylaw14.BreakerEnds", spec := "breakerEnds", unfollowed := true, recurses := true, apart := false }
def BreakerEndsSaid : Prop := breakerEndsRow.holds Try.pinned (OpenSpec.ofChange breakerEndsSpec)

/-- ITS FALSE NEIGHBOUR: 'it returns false'. Refute it at one input. -/
def breakerEndsWrong : ChangeSpec := { name := "breakerEnds", fn := fun _ => fun
  | [d1, d2, d3] => { results := [.lit (.bool false)], args := [d1, d2, d3] }
  | _ => none }
def BreakerEndsWrongFalsely : Prop := breakerEndsRow.holds Try.pinned (OpenSpec.ofChange breakerEndsWrong)

/-- 'spillwaylaw14.BreakerNone': WHATEVER THE INPUT: true; the input reads as it did. -/
def breakerNoneSpec : ChangeSpec := { name := "breakerNone", fn := fun _ => fun
  | [d1, d2] => { results := [.lit (.bool true)], args := [d1, d2] }
  | _ => none }
def breakerNoneRow : OpenClaim := { program := "ytejkfmepiagabaa", sum := "aae9997cb666c27383937fb154a9b6c0bf862a3c63c30c4545a62a443b36cdf2", func := "spillway/spillwaylaw14.BreakerNone", spec := "breakerNone", inPlace := ["maps.clone"], unfollowed := true, recurses := true, apart := false }
def BreakerNoneSaid : Prop := breakerNoneRow.holds Try.pinned (OpenSpec.ofChange breakerNoneSpec)

/-- ITS FALSE NEIGHBOUR: 'it returns false'. Refute it at one input. -/
def breakerNoneWrong : ChangeSpec := { name := "breakerNone", fn := fun _ => fun
  | [d1, d2] => { results := [.lit (.bool false)], args := [d1, d2] }
  | _ => none }
def BreakerNoneWrongFalsely : Prop := breakerNoneRow.holds Try.pinned (OpenSpec.ofChange breakerNoneWrong)

/-- 'spillwaylaw04.StatNone': WHATEVER THE INPUT: true; the input reads as it did. -/
def statNoneSpec : ChangeSpec := { name := "statNone", fn := fun _ => fun
  | [d1, d2] => { results := [.lit (.bool true)], args := [d1, d2] }
  | _ => none }
def statNoneRow : OpenClaim := { program := "ytejkfmepiagabaa", sum := "aae9997cb666c27383937fb154a9b6c0bf862a3c63c30c4545a62a443b36cdf2", func := "spillway/spillwaylaw04.StatNone", spec := "statNone", inPlace := ["math/bits.Add64", "maps.clone"], unfollowed := true, recurses := true, named := ["math/bits.divideError", "math/bits.overflowError"], apart := false }
def StatNoneSaid : Prop := statNoneRow.holds Try.pinned (OpenSpec.ofChange statNoneSpec)

/-- ITS FALSE NEIGHBOUR: 'it returns false'. Refute it at one input. -/
def statNoneWrong : ChangeSpec := { name := "statNone", fn := fun _ => fun
  | [d1, d2] => { results := [.lit (.bool false)], args := [d1, d2] }
  | _ => none }
def StatNoneWrongFalsely : Prop := statNoneRow.holds Try.pinned (OpenSpec.ofChange statNoneWrong)

/- THE SECOND FORM. 'bulk': how many values and letters a reading holds, each counted each time it is reached (what is shared counts as often as it is met; a slice's spare places count too). A statement '..UptoSaid' is the law's where the arguments, and the package variables that the reading takes, are together of bulk at most 1048576: NARROWER than '..Said'. Prove '..Said' where nothing that the law and all that it calls make is longer than what came in: it says more and counts as full. Else prove '..UptoSaid'. A law counts once. -/
mutual
def uptoBulk {H : Type} : DataW H → Nat
  | .lit (.string bytes) => bytes.length + 1
  | .lit _ => 1
  | .nil => 1
  | .ptr d => uptoBulk d + 1
  | .slice elems spare => uptoBulkAll elems + uptoBulkAll spare + 1
  | .agg parts => uptoBulkAll parts + 1
  | .iface _ d => uptoBulk d + 1
  | .map entries => uptoBulkEntries entries + 1
  | .held _ => 1
def uptoBulkAll {H : Type} : List (DataW H) → Nat
  | [] => 0
  | d :: r => uptoBulk d + uptoBulkAll r
def uptoBulkEntries {H : Type} : List (Lit × DataW H) → Nat
  | [] => 0
  | x :: r => uptoBulkEntry x + uptoBulkEntries r
def uptoBulkEntry {H : Type} : Lit × DataW H → Nat
  | (.string bytes, d) => bytes.length + uptoBulk d + 1
  | (_, d) => uptoBulk d + 1
 end
def uptoSmall : (H : Type) → List (DataW H) → Bool := fun _ ds => decide (uptoBulkAll ds ≤ 1048576)
def OpenSpec.upto (s : _root_.Go.ChangeSpec) : _root_.Go.OpenSpec := { _root_.Go.OpenSpec.ofChange s with cond := some uptoSmall }

/-- 'spillwaytop.TopSeconds', WHERE WHAT IT READS IS OF BULK AT MOST 1048576: true; the input reads as it did. -/
def topSecondsUptoRow : OpenClaim := { program := "ytejkfmepiagabaa", sum := "aae9997cb666c27383937fb154a9b6c0bf862a3c63c30c4545a62a443b36cdf2", func := "spillway/spillwaytop.TopSeconds", spec := "topSeconds", unfollowed := true, recurses := true, apart := false, narrowed := true }
def TopSecondsUptoSaid : Prop := topSecondsUptoRow.holds Try.pinned (OpenSpec.upto topSecondsSpec)

/-- 'spillwaylaw04.StatSeconds', WHERE WHAT IT READS IS OF BULK AT MOST 1048576: true; the input reads as it did. -/
def statSecondsUptoRow : OpenClaim := { program := "ytejkfmepiagabaa", sum := "aae9997cb666c27383937fb154a9b6c0bf862a3c63c30c4545a62a443b36cdf2", func := "spillway/spillwaylaw04.StatSeconds", spec := "statSeconds", unfollowed := true, recurses := true, apart := false, narrowed := true }
def StatSecondsUptoSaid : Prop := statSecondsUptoRow.holds Try.pinned (OpenSpec.upto statSecondsSpec)

/-- 'spillwaylaw04.StatFlight', WHERE WHAT IT READS IS OF BULK AT MOST 1048576: true; the input reads as it did. -/
def statFlightUptoRow : OpenClaim := { program := "ytejkfmepiagabaa", sum := "aae9997cb666c27383937fb154a9b6c0bf862a3c63c30c4545a62a443b36cdf2", func := "spillway/spillwaylaw04.StatFlight", spec := "statFlight", unfollowed := true, recurses := true, apart := false, narrowed := true }
def StatFlightUptoSaid : Prop := statFlightUptoRow.holds Try.pinned (OpenSpec.upto statFlightSpec)

/-- 'spillwaylaw14.BreakerBetter', WHERE WHAT IT READS IS OF BULK AT MOST 1048576: true; the input reads as it did. -/
def breakerBetterUptoRow : OpenClaim := { program := "ytejkfmepiagabaa", sum := "aae9997cb666c27383937fb154a9b6c0bf862a3c63c30c4545a62a443b36cdf2", func := "spillway/spillwaylaw14.BreakerBetter", spec := "breakerBetter", unfollowed := true, recurses := true, apart := false, narrowed := true }
def BreakerBetterUptoSaid : Prop := breakerBetterUptoRow.holds Try.pinned (OpenSpec.upto breakerBetterSpec)

/-- 'spillwaylaw14.BreakerHolds', WHERE WHAT IT READS IS OF BULK AT MOST 1048576: true; the input reads as it did. -/
def breakerHoldsUptoRow : OpenClaim := { program := "ytejkfmepiagabaa", sum := "aae9997cb666c27383937fb154a9b6c0bf862a3c63c30c4545a62a443b36cdf2", func := "spillway/spillwaylaw14.BreakerHolds", spec := "breakerHolds", unfollowed := true, recurses := true, apart := false, narrowed := true }
def BreakerHoldsUptoSaid : Prop := breakerHoldsUptoRow.holds Try.pinned (OpenSpec.upto breakerHoldsSpec)

/-- 'spillwaylaw14.BreakerEnds', WHERE WHAT IT READS IS OF BULK AT MOST 1048576: true; the input reads as it did. -/
def breakerEndsUptoRow : OpenClaim := { program := "ytejkfmepiagabaa", sum := "aae9997cb666c27383937fb154a9b6c0bf862a3c63c30c4545a62a443b36cdf2", func := "spillway/spillwaylaw14.BreakerEnds", spec := "breakerEnds", unfollowed := true, recurses := true, apart := false, narrowed := true }
def BreakerEndsUptoSaid : Prop := breakerEndsUptoRow.holds Try.pinned (OpenSpec.upto breakerEndsSpec)

/-- 'spillwaylaw14.BreakerNone', WHERE WHAT IT READS IS OF BULK AT MOST 1048576: true; the input reads as it did. -/
def breakerNoneUptoRow : OpenClaim := { program := "ytejkfmepiagabaa", sum := "aae9997cb666c27383937fb154a9b6c0bf862a3c63c30c4545a62a443b36cdf2", func := "spillway/spillwaylaw14.BreakerNone", spec := "breakerNone", inPlace := ["maps.clone"], unfollowed := true, recurses := true, apart := false, narrowed := true }
def BreakerNoneUptoSaid : Prop := breakerNoneUptoRow.holds Try.pinned (OpenSpec.upto breakerNoneSpec)

/-- 'spillwaylaw04.StatNone', WHERE WHAT IT READS IS OF BULK AT MOST 1048576: true; the input reads as it did. -/
def statNoneUptoRow : OpenClaim := { program := "ytejkfmepiagabaa", sum := "aae9997cb666c27383937fb154a9b6c0bf862a3c63c30c4545a62a443b36cdf2", func := "spillway/spillwaylaw04.StatNone", spec := "statNone", inPlace := ["math/bits.Add64", "maps.clone"], unfollowed := true, recurses := true, named := ["math/bits.divideError", "math/bits.overflowError"], apart := false, narrowed := true }
def StatNoneUptoSaid : Prop := statNoneUptoRow.holds Try.pinned (OpenSpec.upto statNoneSpec)

end Rows
end Go.Proofs.Ytejkfmepiagabaa
