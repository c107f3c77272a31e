/-
  No cell of these rows narrows 'for every input' (looked for: loops, veiled, ifaces, maps, wideKeys, modest, calm, conditions, laid).
  DERIVED. THE GIVEN ROWS OF THIS SEAT. 6 by the template 'for every input the law returns true; each argument reads behind the call as it read before'; 0 by the template 'total and deterministic' (their statements: YtfcmacibblkdkaaTotals.lean).
  GIVEN WITH THE SEED: the statements are not yours to turn. If you find one false, say at which input.
  Laid BY PROGRAM, IN A SANDBOX (cutbox-rows.mjs): the forced cells as the released guide's own fill.sh prints them over the translation c719a62603d9470f… (all of the seat's roots in one cut). By AI agents, Wed Nov 11 2026. No macro, syntax, notation, axiom, sorry.
-/
import Derived.Test.YtfcmacibblkdkaaChecked
import GoSem.Claim
import GoSem.ClaimJoined
import GoSem.ClaimMapViews
import Derived.JoinedTies
import Derived.KernelRfl
namespace Go.Proofs.Ytfcmacibblkdkaa
/- THE CELL 'sum', in the pinned program and in every row, IS THE sha256 OF THE DUMP (.gsa) THAT YtfcmacibblkdkaaProg.lean LOADS. Nothing in Lean hashes anything: it is a label: what it is worth is what the hold of that sum in a sandbox is worth. -/
noncomputable def Try.pinned : Pinned := { name := "ytfcmacibblkdkaa", sum := "c719a62603d9470f892fc729ad03d27b791f05c16921cc81fe9250da5ddefdb5", checked := Try.checked }
namespace Rows
def none {H : Type} : Left H := { results := [], args := [] }

/-- 'spillwaylaw12.WarmRates': WHATEVER THE INPUT: true; the input reads as it did. -/
def warmRatesSpec : ChangeSpec := { name := "warmRates", fn := fun _ => fun
  | [d1, d2, d3] => { results := [.lit (.bool true)], args := [d1, d2, d3] }
  | _ => none }
def warmRatesRow : OpenClaim := { program := "ytfcmacibblkdkaa", sum := "c719a62603d9470f892fc729ad03d27b791f05c16921cc81fe9250da5ddefdb5", func := "spillway/spillwaylaw12.WarmRates", spec := "warmRates", inPlace := ["math/bits.Add64"], named := ["math/bits.divideError", "math/bits.overflowError"], apart := false }
def WarmRatesSaid : Prop := warmRatesRow.holds Try.pinned (OpenSpec.ofChange warmRatesSpec)

/-- ITS FALSE NEIGHBOUR: 'it returns false'. Refute it at one input. -/
def warmRatesWrong : ChangeSpec := { name := "warmRates", fn := fun _ => fun
  | [d1, d2, d3] => { results := [.lit (.bool false)], args := [d1, d2, d3] }
  | _ => none }
def WarmRatesWrongFalsely : Prop := warmRatesRow.holds Try.pinned (OpenSpec.ofChange warmRatesWrong)

/-- 'spillwaylaw12.WarmCold': WHATEVER THE INPUT: true; the input reads as it did. -/
def warmColdSpec : ChangeSpec := { name := "warmCold", fn := fun _ => fun
  | [d1, d2, d3] => { results := [.lit (.bool true)], args := [d1, d2, d3] }
  | _ => none }
def warmColdRow : OpenClaim := { program := "ytfcmacibblkdkaa", sum := "c719a62603d9470f892fc729ad03d27b791f05c16921cc81fe9250da5ddefdb5", func := "spillway/spillwaylaw12.WarmCold", spec := "warmCold", inPlace := ["math/bits.Add64"], named := ["math/bits.divideError", "math/bits.overflowError"], apart := false }
def WarmColdSaid : Prop := warmColdRow.holds Try.pinned (OpenSpec.ofChange warmColdSpec)

/-- ITS FALSE NEIGHBOUR: 'it returns false'. Refute it at one input. -/
def warmColdWrong : ChangeSpec := { name := "warmCold", fn := fun _ => fun
  | [d1, d2, d3] => { results := [.lit (.bool false)], args := [d1, d2, d3] }
  | _ => none }
def WarmColdWrongFalsely : Prop := warmColdRow.holds Try.pinned (OpenSpec.ofChange warmColdWrong)

/-- 'spillwaylaw12.WarmWarms': WHATEVER THE INPUT: true; the input reads as it did. -/
def warmWarmsSpec : ChangeSpec := { name := "warmWarms", fn := fun _ => fun
  | [d1, d2] => { results := [.lit (.bool true)], args := [d1, d2] }
  | _ => none }
def warmWarmsRow : OpenClaim := { program := "ytfcmacibblkdkaa", sum := "c719a62603d9470f892fc729ad03d27b791f05c16921cc81fe9250da5ddefdb5", func := "spillway/spillwaylaw12.WarmWarms", spec := "warmWarms", inPlace := ["math/bits.Add64"], named := ["math/bits.divideError", "math/bits.overflowError"], apart := false }
def WarmWarmsSaid : Prop := warmWarmsRow.holds Try.pinned (OpenSpec.ofChange warmWarmsSpec)

/-- ITS FALSE NEIGHBOUR: 'it returns false'. Refute it at one input. -/
def warmWarmsWrong : ChangeSpec := { name := "warmWarms", fn := fun _ => fun
  | [d1, d2] => { results := [.lit (.bool false)], args := [d1, d2] }
  | _ => none }
def WarmWarmsWrongFalsely : Prop := warmWarmsRow.holds Try.pinned (OpenSpec.ofChange warmWarmsWrong)

/-- 'spillwaylaw12.WarmNone': WHATEVER THE INPUT: true; the input reads as it did. -/
def warmNoneSpec : ChangeSpec := { name := "warmNone", fn := fun _ => fun
  | [d1, d2] => { results := [.lit (.bool true)], args := [d1, d2] }
  | _ => none }
def warmNoneRow : OpenClaim := { program := "ytfcmacibblkdkaa", sum := "c719a62603d9470f892fc729ad03d27b791f05c16921cc81fe9250da5ddefdb5", func := "spillway/spillwaylaw12.WarmNone", spec := "warmNone", inPlace := ["math/bits.Add64"], named := ["math/bits.divideError", "math/bits.overflowError"], apart := false }
def WarmNoneSaid : Prop := warmNoneRow.holds Try.pinned (OpenSpec.ofChange warmNoneSpec)

/-- ITS FALSE NEIGHBOUR: 'it returns false'. Refute it at one input. -/
def warmNoneWrong : ChangeSpec := { name := "warmNone", fn := fun _ => fun
  | [d1, d2] => { results := [.lit (.bool false)], args := [d1, d2] }
  | _ => none }
def WarmNoneWrongFalsely : Prop := warmNoneRow.holds Try.pinned (OpenSpec.ofChange warmNoneWrong)

/-- 'spillwaylaw12.WarmRuns': WHATEVER THE INPUT: true; the input reads as it did. -/
def warmRunsSpec : ChangeSpec := { name := "warmRuns", fn := fun _ => fun
  | [d1, d2, d3] => { results := [.lit (.bool true)], args := [d1, d2, d3] }
  | _ => none }
def warmRunsRow : OpenClaim := { program := "ytfcmacibblkdkaa", sum := "c719a62603d9470f892fc729ad03d27b791f05c16921cc81fe9250da5ddefdb5", func := "spillway/spillwaylaw12.WarmRuns", spec := "warmRuns", inPlace := ["math/bits.Add64", "math/bits.Sub64"], named := ["math/bits.divideError", "math/bits.overflowError"], apart := false }
def WarmRunsSaid : Prop := warmRunsRow.holds Try.pinned (OpenSpec.ofChange warmRunsSpec)

/-- ITS FALSE NEIGHBOUR: 'it returns false'. Refute it at one input. -/
def warmRunsWrong : ChangeSpec := { name := "warmRuns", fn := fun _ => fun
  | [d1, d2, d3] => { results := [.lit (.bool false)], args := [d1, d2, d3] }
  | _ => none }
def WarmRunsWrongFalsely : Prop := warmRunsRow.holds Try.pinned (OpenSpec.ofChange warmRunsWrong)

/-- 'spillwaylaw12.WarmSlowest': WHATEVER THE INPUT: true; the input reads as it did. -/
def warmSlowestSpec : ChangeSpec := { name := "warmSlowest", fn := fun _ => fun
  | [d] => { results := [.lit (.bool true)], args := [d] }
  | _ => none }
def warmSlowestRow : OpenClaim := { program := "ytfcmacibblkdkaa", sum := "c719a62603d9470f892fc729ad03d27b791f05c16921cc81fe9250da5ddefdb5", func := "spillway/spillwaylaw12.WarmSlowest", spec := "warmSlowest", inPlace := ["math/bits.Add64"], named := ["math/bits.divideError", "math/bits.overflowError"], apart := false }
def WarmSlowestSaid : Prop := warmSlowestRow.holds Try.pinned (OpenSpec.ofChange warmSlowestSpec)

/-- ITS FALSE NEIGHBOUR: 'it returns false'. Refute it at one input. -/
def warmSlowestWrong : ChangeSpec := { name := "warmSlowest", fn := fun _ => fun
  | [d] => { results := [.lit (.bool false)], args := [d] }
  | _ => none }
def WarmSlowestWrongFalsely : Prop := warmSlowestRow.holds Try.pinned (OpenSpec.ofChange warmSlowestWrong)

/- THE SECOND FORM. 'bulk': how many values and letters a reading holds, each counted each time it is reached (what is shared counts as often as it is met; a slice's spare places count too). A statement '..UptoSaid' is the law's where the arguments, and the package variables that the reading takes, are together of bulk at most 1048576: NARROWER than '..Said'. Prove '..Said' where nothing that the law and all that it calls make is longer than what came in: it says more and counts as full. Else prove '..UptoSaid'. A law counts once. -/
mutual
def uptoBulk {H : Type} : DataW H → Nat
  | .lit (.string bytes) => bytes.length + 1
  | .lit _ => 1
  | .nil => 1
  | .ptr d => uptoBulk d + 1
  | .slice elems spare => uptoBulkAll elems + uptoBulkAll spare + 1
  | .agg parts => uptoBulkAll parts + 1
  | .iface _ d => uptoBulk d + 1
  | .map entries => uptoBulkEntries entries + 1
  | .held _ => 1
def uptoBulkAll {H : Type} : List (DataW H) → Nat
  | [] => 0
  | d :: r => uptoBulk d + uptoBulkAll r
def uptoBulkEntries {H : Type} : List (Lit × DataW H) → Nat
  | [] => 0
  | x :: r => uptoBulkEntry x + uptoBulkEntries r
def uptoBulkEntry {H : Type} : Lit × DataW H → Nat
  | (.string bytes, d) => bytes.length + uptoBulk d + 1
  | (_, d) => uptoBulk d + 1
 end
def uptoSmall : (H : Type) → List (DataW H) → Bool := fun _ ds => decide (uptoBulkAll ds ≤ 1048576)
def OpenSpec.upto (s : _root_.Go.ChangeSpec) : _root_.Go.OpenSpec := { _root_.Go.OpenSpec.ofChange s with cond := some uptoSmall }

/-- 'spillwaylaw12.WarmRates', WHERE WHAT IT READS IS OF BULK AT MOST 1048576: true; the input reads as it did. -/
def warmRatesUptoRow : OpenClaim := { program := "ytfcmacibblkdkaa", sum := "c719a62603d9470f892fc729ad03d27b791f05c16921cc81fe9250da5ddefdb5", func := "spillway/spillwaylaw12.WarmRates", spec := "warmRates", inPlace := ["math/bits.Add64"], named := ["math/bits.divideError", "math/bits.overflowError"], apart := false, narrowed := true }
def WarmRatesUptoSaid : Prop := warmRatesUptoRow.holds Try.pinned (OpenSpec.upto warmRatesSpec)

/-- 'spillwaylaw12.WarmCold', WHERE WHAT IT READS IS OF BULK AT MOST 1048576: true; the input reads as it did. -/
def warmColdUptoRow : OpenClaim := { program := "ytfcmacibblkdkaa", sum := "c719a62603d9470f892fc729ad03d27b791f05c16921cc81fe9250da5ddefdb5", func := "spillway/spillwaylaw12.WarmCold", spec := "warmCold", inPlace := ["math/bits.Add64"], named := ["math/bits.divideError", "math/bits.overflowError"], apart := false, narrowed := true }
def WarmColdUptoSaid : Prop := warmColdUptoRow.holds Try.pinned (OpenSpec.upto warmColdSpec)

/-- 'spillwaylaw12.WarmWarms', WHERE WHAT IT READS IS OF BULK AT MOST 1048576: true; the input reads as it did. -/
def warmWarmsUptoRow : OpenClaim := { program := "ytfcmacibblkdkaa", sum := "c719a62603d9470f892fc729ad03d27b791f05c16921cc81fe9250da5ddefdb5", func := "spillway/spillwaylaw12.WarmWarms", spec := "warmWarms", inPlace := ["math/bits.Add64"], named := ["math/bits.divideError", "math/bits.overflowError"], apart := false, narrowed := true }
def WarmWarmsUptoSaid : Prop := warmWarmsUptoRow.holds Try.pinned (OpenSpec.upto warmWarmsSpec)

/-- 'spillwaylaw12.WarmNone', WHERE WHAT IT READS IS OF BULK AT MOST 1048576: true; the input reads as it did. -/
def warmNoneUptoRow : OpenClaim := { program := "ytfcmacibblkdkaa", sum := "c719a62603d9470f892fc729ad03d27b791f05c16921cc81fe9250da5ddefdb5", func := "spillway/spillwaylaw12.WarmNone", spec := "warmNone", inPlace := ["math/bits.Add64"], named := ["math/bits.divideError", "math/bits.overflowError"], apart := false, narrowed := true }
def WarmNoneUptoSaid : Prop := warmNoneUptoRow.holds Try.pinned (OpenSpec.upto warmNoneSpec)

/-- 'spillwaylaw12.WarmRuns', WHERE WHAT IT READS IS OF BULK AT MOST 1048576: true; the input reads as it did. -/
def warmRunsUptoRow : OpenClaim := { program := "ytfcmacibblkdkaa", sum := "c719a62603d9470f892fc729ad03d27b791f05c16921cc81fe9250da5ddefdb5", func := "spillway/spillwaylaw12.WarmRuns", spec := "warmRuns", inPlace := ["math/bits.Add64", "math/bits.Sub64"], named := ["math/bits.divideError", "math/bits.overflowError"], apart := false, narrowed := true }
def WarmRunsUptoSaid : Prop := warmRunsUptoRow.holds Try.pinned (OpenSpec.upto warmRunsSpec)

/-- 'spillwaylaw12.WarmSlowest', WHERE WHAT IT READS IS OF BULK AT MOST 1048576: true; the input reads as it did. -/
def warmSlowestUptoRow : OpenClaim := { program := "ytfcmacibblkdkaa", sum := "c719a62603d9470f892fc729ad03d27b791f05c16921cc81fe9250da5ddefdb5", func := "spillway/spillwaylaw12.WarmSlowest", spec := "warmSlowest", inPlace := ["math/bits.Add64"], named := ["math/bits.divideError", "math/bits.overflowError"], apart := false, narrowed := true }
def WarmSlowestUptoSaid : Prop := warmSlowestUptoRow.holds Try.pinned (OpenSpec.upto warmSlowestSpec)

end Rows
end Go.Proofs.Ytfcmacibblkdkaa
