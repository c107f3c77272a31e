/-
  No cell of these rows narrows 'for every input' (looked for: loops, veiled, ifaces, maps, wideKeys, modest, calm, conditions, laid).
  DERIVED. THE GIVEN ROWS OF THIS SEAT. 4 by the template 'for every input the law returns true; each argument reads behind the call as it read before'; 0 by the template 'total and deterministic' (their statements: YtfednlooepicaaaTotals.lean).
  GIVEN WITH THE SEED: the statements are not yours to turn. If you find one false, say at which input.
  Laid BY PROGRAM, IN A SANDBOX (cutbox-rows.mjs): the forced cells as the released guide's own fill.sh prints them over the translation 5d2d814500feb1ea… (all of the seat's roots in one cut). By AI agents, Wed Nov 11 2026. No macro, syntax, notation, axiom, sorry.
-/
import Derived.Test.YtfednlooepicaaaChecked
import GoSem.Claim
import GoSem.ClaimJoined
import GoSem.ClaimMapViews
import Derived.JoinedTies
import Derived.KernelRfl
namespace Go.Proofs.Ytfednlooepicaaa
/- THE CELL 'sum', in the pinned program and in every row, IS THE sha256 OF THE DUMP (.gsa) THAT YtfednlooepicaaaProg.lean LOADS. Nothing in Lean hashes anything: it is a label: what it is worth is what the hold of that sum in a sandbox is worth. -/
noncomputable def Try.pinned : Pinned := { name := "ytfednlooepicaaa", sum := "5d2d814500feb1ea7e45db6a6d6ea63ad6c7bb3555355a9a26a60697478fdb9d", checked := Try.checked }
namespace Rows
def none {H : Type} : Left H := { results := [], args := [] }

/-- 'spillwaylaw13.PacingSpaces': WHATEVER THE INPUT: true; the input reads as it did. -/
def pacingSpacesSpec : ChangeSpec := { name := "pacingSpaces", fn := fun _ => fun
  | [d1, d2, d3] => { results := [.lit (.bool true)], args := [d1, d2, d3] }
  | _ => none }
def pacingSpacesRow : OpenClaim := { program := "ytfednlooepicaaa", sum := "5d2d814500feb1ea7e45db6a6d6ea63ad6c7bb3555355a9a26a60697478fdb9d", func := "spillway/spillwaylaw13.PacingSpaces", spec := "pacingSpaces", inPlace := ["math/bits.Add64"], unfollowed := true, recurses := true, named := ["math/bits.divideError", "math/bits.overflowError"], apart := false }
def PacingSpacesSaid : Prop := pacingSpacesRow.holds Try.pinned (OpenSpec.ofChange pacingSpacesSpec)

/-- ITS FALSE NEIGHBOUR: 'it returns false'. Refute it at one input. -/
def pacingSpacesWrong : ChangeSpec := { name := "pacingSpaces", fn := fun _ => fun
  | [d1, d2, d3] => { results := [.lit (.bool false)], args := [d1, d2, d3] }
  | _ => none }
def PacingSpacesWrongFalsely : Prop := pacingSpacesRow.holds Try.pinned (OpenSpec.ofChange pacingSpacesWrong)

/-- 'spillwaylaw13.PacingStays': WHATEVER THE INPUT: true; the input reads as it did. -/
def pacingStaysSpec : ChangeSpec := { name := "pacingStays", fn := fun _ => fun
  | [d1, d2, d3] => { results := [.lit (.bool true)], args := [d1, d2, d3] }
  | _ => none }
def pacingStaysRow : OpenClaim := { program := "ytfednlooepicaaa", sum := "5d2d814500feb1ea7e45db6a6d6ea63ad6c7bb3555355a9a26a60697478fdb9d", func := "spillway/spillwaylaw13.PacingStays", spec := "pacingStays", inPlace := ["math/bits.Add64"], unfollowed := true, recurses := true, named := ["math/bits.divideError", "math/bits.overflowError"], apart := false }
def PacingStaysSaid : Prop := pacingStaysRow.holds Try.pinned (OpenSpec.ofChange pacingStaysSpec)

/-- ITS FALSE NEIGHBOUR: 'it returns false'. Refute it at one input. -/
def pacingStaysWrong : ChangeSpec := { name := "pacingStays", fn := fun _ => fun
  | [d1, d2, d3] => { results := [.lit (.bool false)], args := [d1, d2, d3] }
  | _ => none }
def PacingStaysWrongFalsely : Prop := pacingStaysRow.holds Try.pinned (OpenSpec.ofChange pacingStaysWrong)

/-- 'spillwaylaw13.PacingNone': WHATEVER THE INPUT: true; the input reads as it did. -/
def pacingNoneSpec : ChangeSpec := { name := "pacingNone", fn := fun _ => fun
  | [d1, d2, d3] => { results := [.lit (.bool true)], args := [d1, d2, d3] }
  | _ => none }
def pacingNoneRow : OpenClaim := { program := "ytfednlooepicaaa", sum := "5d2d814500feb1ea7e45db6a6d6ea63ad6c7bb3555355a9a26a60697478fdb9d", func := "spillway/spillwaylaw13.PacingNone", spec := "pacingNone", inPlace := ["math/bits.Add64"], unfollowed := true, recurses := true, named := ["math/bits.divideError", "math/bits.overflowError"], apart := false }
def PacingNoneSaid : Prop := pacingNoneRow.holds Try.pinned (OpenSpec.ofChange pacingNoneSpec)

/-- ITS FALSE NEIGHBOUR: 'it returns false'. Refute it at one input. -/
def pacingNoneWrong : ChangeSpec := { name := "pacingNone", fn := fun _ => fun
  | [d1, d2, d3] => { results := [.lit (.bool false)], args := [d1, d2, d3] }
  | _ => none }
def PacingNoneWrongFalsely : Prop := pacingNoneRow.holds Try.pinned (OpenSpec.ofChange pacingNoneWrong)

/-- 'spillwaylaw13.PacingPlays': WHATEVER THE INPUT: true; the input reads as it did. -/
def pacingPlaysSpec : ChangeSpec := { name := "pacingPlays", fn := fun _ => fun
  | [d1, d2, d3] => { results := [.lit (.bool true)], args := [d1, d2, d3] }
  | _ => none }
def pacingPlaysRow : OpenClaim := { program := "ytfednlooepicaaa", sum := "5d2d814500feb1ea7e45db6a6d6ea63ad6c7bb3555355a9a26a60697478fdb9d", func := "spillway/spillwaylaw13.PacingPlays", spec := "pacingPlays", inPlace := ["math/bits.Add64", "math/bits.Sub64"], unfollowed := true, recurses := true, named := ["math/bits.divideError", "math/bits.overflowError"], apart := false }
def PacingPlaysSaid : Prop := pacingPlaysRow.holds Try.pinned (OpenSpec.ofChange pacingPlaysSpec)

/-- ITS FALSE NEIGHBOUR: 'it returns false'. Refute it at one input. -/
def pacingPlaysWrong : ChangeSpec := { name := "pacingPlays", fn := fun _ => fun
  | [d1, d2, d3] => { results := [.lit (.bool false)], args := [d1, d2, d3] }
  | _ => none }
def PacingPlaysWrongFalsely : Prop := pacingPlaysRow.holds Try.pinned (OpenSpec.ofChange pacingPlaysWrong)

/- THE SECOND FORM. 'bulk': how many values and letters a reading holds, each counted each time it is reached (what is shared counts as often as it is met; a slice's spare places count too). A statement '..UptoSaid' is the law's where the arguments, and the package variables that the reading takes, are together of bulk at most 1048576: NARROWER than '..Said'. Prove '..Said' where nothing that the law and all that it calls make is longer than what came in: it says more and counts as full. Else prove '..UptoSaid'. A law counts once. -/
mutual
def uptoBulk {H : Type} : DataW H → Nat
  | .lit (.string bytes) => bytes.length + 1
  | .lit _ => 1
  | .nil => 1
  | .ptr d => uptoBulk d + 1
  | .slice elems spare => uptoBulkAll elems + uptoBulkAll spare + 1
  | .agg parts => uptoBulkAll parts + 1
  | .iface _ d => uptoBulk d + 1
  | .map entries => uptoBulkEntries entries + 1
  | .held _ => 1
def uptoBulkAll {H : Type} : List (DataW H) → Nat
  | [] => 0
  | d :: r => uptoBulk d + uptoBulkAll r
def uptoBulkEntries {H : Type} : List (Lit × DataW H) → Nat
  | [] => 0
  | x :: r => uptoBulkEntry x + uptoBulkEntries r
def uptoBulkEntry {H : Type} : Lit × DataW H → Nat
  | (.string bytes, d) => bytes.length + uptoBulk d + 1
  | (_, d) => uptoBulk d + 1
 end
def uptoSmall : (H : Type) → List (DataW H) → Bool := fun _ ds => decide (uptoBulkAll ds ≤ 1048576)
def OpenSpec.upto (s : _root_.Go.ChangeSpec) : _root_.Go.OpenSpec := { _root_.Go.OpenSpec.ofChange s with cond := some uptoSmall }

/-- 'spillwaylaw13.PacingSpaces', WHERE WHAT IT READS IS OF BULK AT MOST 1048576: true; the input reads as it did. -/
def pacingSpacesUptoRow : OpenClaim := { program := "ytfednlooepicaaa", sum := "5d2d814500feb1ea7e45db6a6d6ea63ad6c7bb3555355a9a26a60697478fdb9d", func := "spillway/spillwaylaw13.PacingSpaces", spec := "pacingSpaces", inPlace := ["math/bits.Add64"], unfollowed := true, recurses := true, named := ["math/bits.divideError", "math/bits.overflowError"], apart := false, narrowed := true }
def PacingSpacesUptoSaid : Prop := pacingSpacesUptoRow.holds Try.pinned (OpenSpec.upto pacingSpacesSpec)

/-- 'spillwaylaw13.PacingStays', WHERE WHAT IT READS IS OF BULK AT MOST 1048576: true; the input reads as it did. -/
def pacingStaysUptoRow : OpenClaim := { program := "ytfednlooepicaaa", sum := "5d2d814500feb1ea7e45db6a6d6ea63ad6c7bb3555355a9a26a60697478fdb9d", func := "spillway/spillwaylaw13.PacingStays", spec := "pacingStays", inPlace := ["math/bits.Add64"], unfollowed := true, recurses := true, named := ["math/bits.divideError", "math/bits.overflowError"], apart := false, narrowed := true }
def PacingStaysUptoSaid : Prop := pacingStaysUptoRow.holds Try.pinned (OpenSpec.upto pacingStaysSpec)

/-- 'spillwaylaw13.PacingNone', WHERE WHAT IT READS IS OF BULK AT MOST 1048576: true; the input reads as it did. -/
def pacingNoneUptoRow : OpenClaim := { program := "ytfednlooepicaaa", sum := "5d2d814500feb1ea7e45db6a6d6ea63ad6c7bb3555355a9a26a60697478fdb9d", func := "spillway/spillwaylaw13.PacingNone", spec := "pacingNone", inPlace := ["math/bits.Add64"], unfollowed := true, recurses := true, named := ["math/bits.divideError", "math/bits.overflowError"], apart := false, narrowed := true }
def PacingNoneUptoSaid : Prop := pacingNoneUptoRow.holds Try.pinned (OpenSpec.upto pacingNoneSpec)

/-- 'spillwaylaw13.PacingPlays', WHERE WHAT IT READS IS OF BULK AT MOST 1048576: true; the input reads as it did. -/
def pacingPlaysUptoRow : OpenClaim := { program := "ytfednlooepicaaa", sum := "5d2d814500feb1ea7e45db6a6d6ea63ad6c7bb3555355a9a26a60697478fdb9d", func := "spillway/spillwaylaw13.PacingPlays", spec := "pacingPlays", inPlace := ["math/bits.Add64", "math/bits.Sub64"], unfollowed := true, recurses := true, named := ["math/bits.divideError", "math/bits.overflowError"], apart := false, narrowed := true }
def PacingPlaysUptoSaid : Prop := pacingPlaysUptoRow.holds Try.pinned (OpenSpec.upto pacingPlaysSpec)

end Rows
end Go.Proofs.Ytfednlooepicaaa
