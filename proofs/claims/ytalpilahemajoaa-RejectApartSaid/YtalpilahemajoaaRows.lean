/-
  No cell of these rows narrows 'for every input' (looked for: loops, veiled, ifaces, maps, wideKeys, modest, calm, conditions, laid).
  DERIVED. THE GIVEN ROWS OF THIS SEAT. 4 by the template 'for every input the law returns true; each argument reads behind the call as it read before'; 0 by the template 'total and deterministic' (their statements: YtalpilahemajoaaTotals.lean).
  GIVEN WITH THE SEED: the statements are not yours to turn. If you find one false, say at which input.
  Laid BY PROGRAM, IN A SANDBOX (cutbox-rows.mjs): the forced cells as the released guide's own fill.sh prints them over the translation 331a5ea73a3a9edb… (all of the seat's roots in one cut). By AI agents, Wed Nov 11 2026. No macro, syntax, notation, axiom, sorry.
-/
import Derived.Test.YtalpilahemajoaaChecked
import GoSem.Claim
import GoSem.ClaimJoined
import GoSem.ClaimMapViews
import Derived.JoinedTies
import Derived.KernelRfl
namespace Go.Proofs.Ytalpilahemajoaa
/- THE CELL 'sum', in the pinned program and in every row, IS THE sha256 OF THE DUMP (.gsa) THAT YtalpilahemajoaaProg.lean LOADS. Nothing in Lean hashes anything: it is a label: what it is worth is what the hold of that sum in a sandbox is worth. -/
noncomputable def Try.pinned : Pinned := { name := "ytalpilahemajoaa", sum := "331a5ea73a3a9edb3ba98931e0ccea03af96ebd255b8d85489a39253780c60a5", checked := Try.checked }
namespace Rows
def none {H : Type} : Left H := { results := [], args := [] }

/-- 'spillwaylaw11.RejectLess': WHATEVER THE INPUT: true; the input reads as it did. -/
def rejectLessSpec : ChangeSpec := { name := "rejectLess", fn := fun _ => fun
  | [d1, d2, d3] => { results := [.lit (.bool true)], args := [d1, d2, d3] }
  | _ => none }
def rejectLessRow : OpenClaim := { program := "ytalpilahemajoaa", sum := "331a5ea73a3a9edb3ba98931e0ccea03af96ebd255b8d85489a39253780c60a5", func := "spillway/spillwaylaw11.RejectLess", spec := "rejectLess", unfollowed := true, recurses := true, apart := false }
def RejectLessSaid : Prop := rejectLessRow.holds Try.pinned (OpenSpec.ofChange rejectLessSpec)

/-- ITS FALSE NEIGHBOUR: 'it returns false'. Refute it at one input. -/
def rejectLessWrong : ChangeSpec := { name := "rejectLess", fn := fun _ => fun
  | [d1, d2, d3] => { results := [.lit (.bool false)], args := [d1, d2, d3] }
  | _ => none }
def RejectLessWrongFalsely : Prop := rejectLessRow.holds Try.pinned (OpenSpec.ofChange rejectLessWrong)

/-- 'spillwaylaw11.RejectApart': WHATEVER THE INPUT: true; the input reads as it did. -/
def rejectApartSpec : ChangeSpec := { name := "rejectApart", fn := fun _ => fun
  | [d1, d2, d3] => { results := [.lit (.bool true)], args := [d1, d2, d3] }
  | _ => none }
def rejectApartRow : OpenClaim := { program := "ytalpilahemajoaa", sum := "331a5ea73a3a9edb3ba98931e0ccea03af96ebd255b8d85489a39253780c60a5", func := "spillway/spillwaylaw11.RejectApart", spec := "rejectApart", unfollowed := true, recurses := true, apart := false }
def RejectApartSaid : Prop := rejectApartRow.holds Try.pinned (OpenSpec.ofChange rejectApartSpec)

/-- ITS FALSE NEIGHBOUR: 'it returns false'. Refute it at one input. -/
def rejectApartWrong : ChangeSpec := { name := "rejectApart", fn := fun _ => fun
  | [d1, d2, d3] => { results := [.lit (.bool false)], args := [d1, d2, d3] }
  | _ => none }
def RejectApartWrongFalsely : Prop := rejectApartRow.holds Try.pinned (OpenSpec.ofChange rejectApartWrong)

/-- 'spillwaylaw11.RejectMine': WHATEVER THE INPUT: true; the input reads as it did. -/
def rejectMineSpec : ChangeSpec := { name := "rejectMine", fn := fun _ => fun
  | [d1, d2, d3] => { results := [.lit (.bool true)], args := [d1, d2, d3] }
  | _ => none }
def rejectMineRow : OpenClaim := { program := "ytalpilahemajoaa", sum := "331a5ea73a3a9edb3ba98931e0ccea03af96ebd255b8d85489a39253780c60a5", func := "spillway/spillwaylaw11.RejectMine", spec := "rejectMine", unfollowed := true, recurses := true, apart := false }
def RejectMineSaid : Prop := rejectMineRow.holds Try.pinned (OpenSpec.ofChange rejectMineSpec)

/-- ITS FALSE NEIGHBOUR: 'it returns false'. Refute it at one input. -/
def rejectMineWrong : ChangeSpec := { name := "rejectMine", fn := fun _ => fun
  | [d1, d2, d3] => { results := [.lit (.bool false)], args := [d1, d2, d3] }
  | _ => none }
def RejectMineWrongFalsely : Prop := rejectMineRow.holds Try.pinned (OpenSpec.ofChange rejectMineWrong)

/-- 'spillwaylaw11.RejectPasses': WHATEVER THE INPUT: true; the input reads as it did. -/
def rejectPassesSpec : ChangeSpec := { name := "rejectPasses", fn := fun _ => fun
  | [d1, d2] => { results := [.lit (.bool true)], args := [d1, d2] }
  | _ => none }
def rejectPassesRow : OpenClaim := { program := "ytalpilahemajoaa", sum := "331a5ea73a3a9edb3ba98931e0ccea03af96ebd255b8d85489a39253780c60a5", func := "spillway/spillwaylaw11.RejectPasses", spec := "rejectPasses", inPlace := ["math/bits.Add64", "math/bits.Sub64"], unfollowed := true, recurses := true, apart := false }
def RejectPassesSaid : Prop := rejectPassesRow.holds Try.pinned (OpenSpec.ofChange rejectPassesSpec)

/-- ITS FALSE NEIGHBOUR: 'it returns false'. Refute it at one input. -/
def rejectPassesWrong : ChangeSpec := { name := "rejectPasses", fn := fun _ => fun
  | [d1, d2] => { results := [.lit (.bool false)], args := [d1, d2] }
  | _ => none }
def RejectPassesWrongFalsely : Prop := rejectPassesRow.holds Try.pinned (OpenSpec.ofChange rejectPassesWrong)

/- THE SECOND FORM. 'bulk': how many values and letters a reading holds, each counted each time it is reached (what is shared counts as often as it is met; a slice's spare places count too). A statement '..UptoSaid' is the law's where the arguments, and the package variables that the reading takes, are together of bulk at most 1048576: NARROWER than '..Said'. Prove '..Said' where nothing that the law and all that it calls make is longer than what came in: it says more and counts as full. Else prove '..UptoSaid'. A law counts once. -/
mutual
def uptoBulk {H : Type} : DataW H → Nat
  | .lit (.string bytes) => bytes.length + 1
  | .lit _ => 1
  | .nil => 1
  | .ptr d => uptoBulk d + 1
  | .slice elems spare => uptoBulkAll elems + uptoBulkAll spare + 1
  | .agg parts => uptoBulkAll parts + 1
  | .iface _ d => uptoBulk d + 1
  | .map entries => uptoBulkEntries entries + 1
  | .held _ => 1
def uptoBulkAll {H : Type} : List (DataW H) → Nat
  | [] => 0
  | d :: r => uptoBulk d + uptoBulkAll r
def uptoBulkEntries {H : Type} : List (Lit × DataW H) → Nat
  | [] => 0
  | x :: r => uptoBulkEntry x + uptoBulkEntries r
def uptoBulkEntry {H : Type} : Lit × DataW H → Nat
  | (.string bytes, d) => bytes.length + uptoBulk d + 1
  | (_, d) => uptoBulk d + 1
 end
def uptoSmall : (H : Type) → List (DataW H) → Bool := fun _ ds => decide (uptoBulkAll ds ≤ 1048576)
def OpenSpec.upto (s : _root_.Go.ChangeSpec) : _root_.Go.OpenSpec := { _root_.Go.OpenSpec.ofChange s with cond := some uptoSmall }

/-- 'spillwaylaw11.RejectLess', WHERE WHAT IT READS IS OF BULK AT MOST 1048576: true; the input reads as it did. -/
def rejectLessUptoRow : OpenClaim := { program := "ytalpilahemajoaa", sum := "331a5ea73a3a9edb3ba98931e0ccea03af96ebd255b8d85489a39253780c60a5", func := "spillway/spillwaylaw11.RejectLess", spec := "rejectLess", unfollowed := true, recurses := true, apart := false, narrowed := true }
def RejectLessUptoSaid : Prop := rejectLessUptoRow.holds Try.pinned (OpenSpec.upto rejectLessSpec)

/-- 'spillwaylaw11.RejectApart', WHERE WHAT IT READS IS OF BULK AT MOST 1048576: true; the input reads as it did. -/
def rejectApartUptoRow : OpenClaim := { program := "ytalpilahemajoaa", sum := "331a5ea73a3a9edb3ba98931e0ccea03af96ebd255b8d85489a39253780c60a5", func := "spillway/spillwaylaw11.RejectApart", spec := "rejectApart", unfollowed := true, recurses := true, apart := false, narrowed := true }
def RejectApartUptoSaid : Prop := rejectApartUptoRow.holds Try.pinned (OpenSpec.upto rejectApartSpec)

/-- 'spillwaylaw11.RejectMine', WHERE WHAT IT READS IS OF BULK AT MOST 1048576: true; the input reads as it did. -/
def rejectMineUptoRow : OpenClaim := { program := "ytalpilahemajoaa", sum := "331a5ea73a3a9edb3ba98931e0ccea03af96ebd255b8d85489a39253780c60a5", func := "spillway/spillwaylaw11.RejectMine", spec := "rejectMine", unfollowed := true, recurses := true, apart := false, narrowed := true }
def RejectMineUptoSaid : Prop := rejectMineUptoRow.holds Try.pinned (OpenSpec.upto rejectMineSpec)

/-- 'spillwaylaw11.RejectPasses', WHERE WHAT IT READS IS OF BULK AT MOST 1048576: true; the input reads as it did. -/
def rejectPassesUptoRow : OpenClaim := { program := "ytalpilahemajoaa", sum := "331a5ea73a3a9edb3ba98931e0ccea03af96ebd255b8d85489a39253780c60a5", func := "spillway/spillwaylaw11.RejectPasses", spec := "rejectPasses", inPlace := ["math/bits.Add64", "math/bits.Sub64"], unfollowed := true, recurses := true, apart := false, narrowed := true }
def RejectPassesUptoSaid : Prop := rejectPassesUptoRow.holds Try.pinned (OpenSpec.upto rejectPassesSpec)

end Rows
end Go.Proofs.Ytalpilahemajoaa
