/-
  No cell of these rows narrows 'for every input' (looked for: loops, veiled, ifaces, maps, wideKeys, modest, calm, conditions, laid).
  DERIVED. THE GIVEN ROWS OF THIS SEAT. 6 by the template 'for every input the law returns true; each argument reads behind the call as it read before'; 0 by the template 'total and deterministic' (their statements: YtogdnacambjhpaaTotals.lean).
  GIVEN WITH THE SEED: the statements are not yours to turn. If you find one false, say at which input.
  Laid BY PROGRAM, IN A SANDBOX (cutbox-rows.mjs): the forced cells as the released guide's own fill.sh prints them over the translation 3db2d70f688d9279… (all of the seat's roots in one cut). By AI agents, Wed Nov 11 2026. No macro, syntax, notation, axiom, sorry.
-/
import Derived.Test.YtogdnacambjhpaaChecked
import GoSem.Claim
import GoSem.ClaimJoined
import GoSem.ClaimMapViews
import Derived.JoinedTies
import Derived.KernelRfl
namespace Go.Proofs.Ytogdnacambjhpaa
/- THE CELL 'sum', in the pinned program and in every row, IS THE sha256 OF THE DUMP (.gsa) THAT YtogdnacambjhpaaProg.lean LOADS. Nothing in Lean hashes anything: it is a label: what it is worth is what the hold of that sum in a sandbox is worth. -/
noncomputable def Try.pinned : Pinned := { name := "ytogdnacambjhpaa", sum := "3db2d70f688d9279533e15737800f76a7f179dfcf5d671e22293de9dca0fb73f", checked := Try.checked }
namespace Rows
def none {H : Type} : Left H := { results := [], args := [] }

/-- 'spillwaylaw06.SketchNever': WHATEVER THE INPUT: true; the input reads as it did. -/
def sketchNeverSpec : ChangeSpec := { name := "sketchNever", fn := fun _ => fun
  | [d1, d2] => { results := [.lit (.bool true)], args := [d1, d2] }
  | _ => none }
def sketchNeverRow : OpenClaim := { program := "ytogdnacambjhpaa", sum := "3db2d70f688d9279533e15737800f76a7f179dfcf5d671e22293de9dca0fb73f", func := "spillway/spillwaylaw06.SketchNever", spec := "sketchNever", unfollowed := true, recurses := true, plainKeys := false, apart := false }
def SketchNeverSaid : Prop := sketchNeverRow.holds Try.pinned (OpenSpec.ofChange sketchNeverSpec)

/-- ITS FALSE NEIGHBOUR: 'it returns false'. Refute it at one input. -/
def sketchNeverWrong : ChangeSpec := { name := "sketchNever", fn := fun _ => fun
  | [d1, d2] => { results := [.lit (.bool false)], args := [d1, d2] }
  | _ => none }
def SketchNeverWrongFalsely : Prop := sketchNeverRow.holds Try.pinned (OpenSpec.ofChange sketchNeverWrong)

/-- 'spillwaylaw06.SketchAlone': WHATEVER THE INPUT: true; the input reads as it did. -/
def sketchAloneSpec : ChangeSpec := { name := "sketchAlone", fn := fun _ => fun
  | [d1, d2] => { results := [.lit (.bool true)], args := [d1, d2] }
  | _ => none }
def sketchAloneRow : OpenClaim := { program := "ytogdnacambjhpaa", sum := "3db2d70f688d9279533e15737800f76a7f179dfcf5d671e22293de9dca0fb73f", func := "spillway/spillwaylaw06.SketchAlone", spec := "sketchAlone", unfollowed := true, recurses := true, plainKeys := false, apart := false }
def SketchAloneSaid : Prop := sketchAloneRow.holds Try.pinned (OpenSpec.ofChange sketchAloneSpec)

/-- ITS FALSE NEIGHBOUR: 'it returns false'. Refute it at one input. -/
def sketchAloneWrong : ChangeSpec := { name := "sketchAlone", fn := fun _ => fun
  | [d1, d2] => { results := [.lit (.bool false)], args := [d1, d2] }
  | _ => none }
def SketchAloneWrongFalsely : Prop := sketchAloneRow.holds Try.pinned (OpenSpec.ofChange sketchAloneWrong)

/-- 'spillwaylaw06.SketchRows': WHATEVER THE INPUT: true; the input reads as it did. -/
def sketchRowsSpec : ChangeSpec := { name := "sketchRows", fn := fun _ => fun
  | [d1, d2, d3] => { results := [.lit (.bool true)], args := [d1, d2, d3] }
  | _ => none }
def sketchRowsRow : OpenClaim := { program := "ytogdnacambjhpaa", sum := "3db2d70f688d9279533e15737800f76a7f179dfcf5d671e22293de9dca0fb73f", func := "spillway/spillwaylaw06.SketchRows", spec := "sketchRows", unfollowed := true, recurses := true, plainKeys := false, apart := false }
def SketchRowsSaid : Prop := sketchRowsRow.holds Try.pinned (OpenSpec.ofChange sketchRowsSpec)

/-- ITS FALSE NEIGHBOUR: 'it returns false'. Refute it at one input. -/
def sketchRowsWrong : ChangeSpec := { name := "sketchRows", fn := fun _ => fun
  | [d1, d2, d3] => { results := [.lit (.bool false)], args := [d1, d2, d3] }
  | _ => none }
def SketchRowsWrongFalsely : Prop := sketchRowsRow.holds Try.pinned (OpenSpec.ofChange sketchRowsWrong)

/-- 'spillwaylaw06.SketchRuns': WHATEVER THE INPUT: true; the input reads as it did. -/
def sketchRunsSpec : ChangeSpec := { name := "sketchRuns", fn := fun _ => fun
  | [d1, d2] => { results := [.lit (.bool true)], args := [d1, d2] }
  | _ => none }
def sketchRunsRow : OpenClaim := { program := "ytogdnacambjhpaa", sum := "3db2d70f688d9279533e15737800f76a7f179dfcf5d671e22293de9dca0fb73f", func := "spillway/spillwaylaw06.SketchRuns", spec := "sketchRuns", unfollowed := true, recurses := true, plainKeys := false, apart := false }
def SketchRunsSaid : Prop := sketchRunsRow.holds Try.pinned (OpenSpec.ofChange sketchRunsSpec)

/-- ITS FALSE NEIGHBOUR: 'it returns false'. Refute it at one input. -/
def sketchRunsWrong : ChangeSpec := { name := "sketchRuns", fn := fun _ => fun
  | [d1, d2] => { results := [.lit (.bool false)], args := [d1, d2] }
  | _ => none }
def SketchRunsWrongFalsely : Prop := sketchRunsRow.holds Try.pinned (OpenSpec.ofChange sketchRunsWrong)

/-- 'spillwaylaw06.SketchTops': WHATEVER THE INPUT: true; the input reads as it did. -/
def sketchTopsSpec : ChangeSpec := { name := "sketchTops", fn := fun _ => fun
  | [d1, d2, d3] => { results := [.lit (.bool true)], args := [d1, d2, d3] }
  | _ => none }
def sketchTopsRow : OpenClaim := { program := "ytogdnacambjhpaa", sum := "3db2d70f688d9279533e15737800f76a7f179dfcf5d671e22293de9dca0fb73f", func := "spillway/spillwaylaw06.SketchTops", spec := "sketchTops", unfollowed := true, recurses := true, plainKeys := false, apart := false }
def SketchTopsSaid : Prop := sketchTopsRow.holds Try.pinned (OpenSpec.ofChange sketchTopsSpec)

/-- ITS FALSE NEIGHBOUR: 'it returns false'. Refute it at one input. -/
def sketchTopsWrong : ChangeSpec := { name := "sketchTops", fn := fun _ => fun
  | [d1, d2, d3] => { results := [.lit (.bool false)], args := [d1, d2, d3] }
  | _ => none }
def SketchTopsWrongFalsely : Prop := sketchTopsRow.holds Try.pinned (OpenSpec.ofChange sketchTopsWrong)

/-- 'spillwaylaw06.SketchNone': WHATEVER THE INPUT: true; the input reads as it did. -/
def sketchNoneSpec : ChangeSpec := { name := "sketchNone", fn := fun _ => fun
  | [d1, d2] => { results := [.lit (.bool true)], args := [d1, d2] }
  | _ => none }
def sketchNoneRow : OpenClaim := { program := "ytogdnacambjhpaa", sum := "3db2d70f688d9279533e15737800f76a7f179dfcf5d671e22293de9dca0fb73f", func := "spillway/spillwaylaw06.SketchNone", spec := "sketchNone", unfollowed := true, recurses := true, plainKeys := false, apart := false }
def SketchNoneSaid : Prop := sketchNoneRow.holds Try.pinned (OpenSpec.ofChange sketchNoneSpec)

/-- ITS FALSE NEIGHBOUR: 'it returns false'. Refute it at one input. -/
def sketchNoneWrong : ChangeSpec := { name := "sketchNone", fn := fun _ => fun
  | [d1, d2] => { results := [.lit (.bool false)], args := [d1, d2] }
  | _ => none }
def SketchNoneWrongFalsely : Prop := sketchNoneRow.holds Try.pinned (OpenSpec.ofChange sketchNoneWrong)

/- THE SECOND FORM. 'bulk': how many values and letters a reading holds, each counted each time it is reached (what is shared counts as often as it is met; a slice's spare places count too). A statement '..UptoSaid' is the law's where the arguments, and the package variables that the reading takes, are together of bulk at most 1048576: NARROWER than '..Said'. Prove '..Said' where nothing that the law and all that it calls make is longer than what came in: it says more and counts as full. Else prove '..UptoSaid'. A law counts once. -/
mutual
def uptoBulk {H : Type} : DataW H → Nat
  | .lit (.string bytes) => bytes.length + 1
  | .lit _ => 1
  | .nil => 1
  | .ptr d => uptoBulk d + 1
  | .slice elems spare => uptoBulkAll elems + uptoBulkAll spare + 1
  | .agg parts => uptoBulkAll parts + 1
  | .iface _ d => uptoBulk d + 1
  | .map entries => uptoBulkEntries entries + 1
  | .held _ => 1
def uptoBulkAll {H : Type} : List (DataW H) → Nat
  | [] => 0
  | d :: r => uptoBulk d + uptoBulkAll r
def uptoBulkEntries {H : Type} : List (Lit × DataW H) → Nat
  | [] => 0
  | x :: r => uptoBulkEntry x + uptoBulkEntries r
def uptoBulkEntry {H : Type} : Lit × DataW H → Nat
  | (.string bytes, d) => bytes.length + uptoBulk d + 1
  | (_, d) => uptoBulk d + 1
 end
def uptoSmall : (H : Type) → List (DataW H) → Bool := fun _ ds => decide (uptoBulkAll ds ≤ 1048576)
def OpenSpec.upto (s : _root_.Go.ChangeSpec) : _root_.Go.OpenSpec := { _root_.Go.OpenSpec.ofChange s with cond := some uptoSmall }

/-- 'spillwaylaw06.SketchNever', WHERE WHAT IT READS IS OF BULK AT MOST 1048576: true; the input reads as it did. -/
def sketchNeverUptoRow : OpenClaim := { program := "ytogdnacambjhpaa", sum := "3db2d70f688d9279533e15737800f76a7f179dfcf5d671e22293de9dca0fb73f", func := "spillway/spillwaylaw06.SketchNever", spec := "sketchNever", unfollowed := true, recurses := true, plainKeys := false, apart := false, narrowed := true }
def SketchNeverUptoSaid : Prop := sketchNeverUptoRow.holds Try.pinned (OpenSpec.upto sketchNeverSpec)

/-- 'spillwaylaw06.SketchAlone', WHERE WHAT IT READS IS OF BULK AT MOST 1048576: true; the input reads as it did. -/
def sketchAloneUptoRow : OpenClaim := { program := "ytogdnacambjhpaa", sum := "3db2d70f688d9279533e15737800f76a7f179dfcf5d671e22293de9dca0fb73f", func := "spillway/spillwaylaw06.SketchAlone", spec := "sketchAlone", unfollowed := true, recurses := true, plainKeys := false, apart := false, narrowed := true }
def SketchAloneUptoSaid : Prop := sketchAloneUptoRow.holds Try.pinned (OpenSpec.upto sketchAloneSpec)

/-- 'spillwaylaw06.SketchRows', WHERE WHAT IT READS IS OF BULK AT MOST 1048576: true; the input reads as it did. -/
def sketchRowsUptoRow : OpenClaim := { program := "ytogdnacambjhpaa", sum := "3db2d70f688d9279533e15737800f76a7f179dfcf5d671e22293de9dca0fb73f", func := "spillway/spillwaylaw06.SketchRows", spec := "sketchRows", unfollowed := true, recurses := true, plainKeys := false, apart := false, narrowed := true }
def SketchRowsUptoSaid : Prop := sketchRowsUptoRow.holds Try.pinned (OpenSpec.upto sketchRowsSpec)

/-- 'spillwaylaw06.SketchRuns', WHERE WHAT IT READS IS OF BULK AT MOST 1048576: true; the input reads as it did. -/
def sketchRunsUptoRow : OpenClaim := { program := "ytogdnacambjhpaa", sum := "3db2d70f688d9279533e15737800f76a7f179dfcf5d671e22293de9dca0fb73f", func := "spillway/spillwaylaw06.SketchRuns", spec := "sketchRuns", unfollowed := true, recurses := true, plainKeys := false, apart := false, narrowed := true }
def SketchRunsUptoSaid : Prop := sketchRunsUptoRow.holds Try.pinned (OpenSpec.upto sketchRunsSpec)

/-- 'spillwaylaw06.SketchTops', WHERE WHAT IT READS IS OF BULK AT MOST 1048576: true; the input reads as it did. -/
def sketchTopsUptoRow : OpenClaim := { program := "ytogdnacambjhpaa", sum := "3db2d70f688d9279533e15737800f76a7f179dfcf5d671e22293de9dca0fb73f", func := "spillway/spillwaylaw06.SketchTops", spec := "sketchTops", unfollowed := true, recurses := true, plainKeys := false, apart := false, narrowed := true }
def SketchTopsUptoSaid : Prop := sketchTopsUptoRow.holds Try.pinned (OpenSpec.upto sketchTopsSpec)

/-- 'spillwaylaw06.SketchNone', WHERE WHAT IT READS IS OF BULK AT MOST 1048576: true; the input reads as it did. -/
def sketchNoneUptoRow : OpenClaim := { program := "ytogdnacambjhpaa", sum := "3db2d70f688d9279533e15737800f76a7f179dfcf5d671e22293de9dca0fb73f", func := "spillway/spillwaylaw06.SketchNone", spec := "sketchNone", unfollowed := true, recurses := true, plainKeys := false, apart := false, narrowed := true }
def SketchNoneUptoSaid : Prop := sketchNoneUptoRow.holds Try.pinned (OpenSpec.upto sketchNoneSpec)

end Rows
end Go.Proofs.Ytogdnacambjhpaa
