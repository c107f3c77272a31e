/-
  No cell of these rows narrows 'for every input' (looked for: loops, veiled, ifaces, maps, wideKeys, modest, calm, conditions, laid).
  DERIVED. THE GIVEN ROWS OF THIS SEAT. 5 by the template 'for every input the law returns true; each argument reads behind the call as it read before'; 0 by the template 'total and deterministic' (their statements: YtnobfmlfhaaghaaTotals.lean).
  GIVEN WITH THE SEED: the statements are not yours to turn. If you find one false, say at which input.
  Laid BY PROGRAM, IN A SANDBOX (cutbox-rows.mjs): the forced cells as the released guide's own fill.sh prints them over the translation 13010058ef1b6e69… (all of the seat's roots in one cut). By AI agents, Wed Nov 11 2026. No macro, syntax, notation, axiom, sorry.
-/
import Derived.Test.YtnobfmlfhaaghaaChecked
import GoSem.Claim
import GoSem.ClaimJoined
import GoSem.ClaimMapViews
import Derived.JoinedTies
import Derived.KernelRfl
namespace Go.Proofs.Ytnobfmlfhaaghaa
/- THE CELL 'sum', in the pinned program and in every row, IS THE sha256 OF THE DUMP (.gsa) THAT YtnobfmlfhaaghaaProg.lean LOADS. Nothing in Lean hashes anything: it is a label: what it is worth is what the hold of that sum in a sandbox is worth. -/
noncomputable def Try.pinned : Pinned := { name := "ytnobfmlfhaaghaa", sum := "13010058ef1b6e693cbbd32fc13b559600d28f751d8be91573e62a821e6c81c9", checked := Try.checked }
namespace Rows
def none {H : Type} : Left H := { results := [], args := [] }

/-- 'spillwaylaw16.GuardLess': WHATEVER THE INPUT: true; the input reads as it did. -/
def guardLessSpec : ChangeSpec := { name := "guardLess", fn := fun _ => fun
  | [d1, d2, d3] => { results := [.lit (.bool true)], args := [d1, d2, d3] }
  | _ => none }
def guardLessRow : OpenClaim := { program := "ytnobfmlfhaaghaa", sum := "13010058ef1b6e693cbbd32fc13b559600d28f751d8be91573e62a821e6c81c9", func := "spillway/spillwaylaw16.GuardLess", spec := "guardLess", inPlace := ["math/bits.Add64"], unfollowed := true, recurses := true, apart := false }
def GuardLessSaid : Prop := guardLessRow.holds Try.pinned (OpenSpec.ofChange guardLessSpec)

/-- ITS FALSE NEIGHBOUR: 'it returns false'. Refute it at one input. -/
def guardLessWrong : ChangeSpec := { name := "guardLess", fn := fun _ => fun
  | [d1, d2, d3] => { results := [.lit (.bool false)], args := [d1, d2, d3] }
  | _ => none }
def GuardLessWrongFalsely : Prop := guardLessRow.holds Try.pinned (OpenSpec.ofChange guardLessWrong)

/-- 'spillwaylaw16.GuardOther': WHATEVER THE INPUT: true; the input reads as it did. -/
def guardOtherSpec : ChangeSpec := { name := "guardOther", fn := fun _ => fun
  | [d1, d2] => { results := [.lit (.bool true)], args := [d1, d2] }
  | _ => none }
def guardOtherRow : OpenClaim := { program := "ytnobfmlfhaaghaa", sum := "13010058ef1b6e693cbbd32fc13b559600d28f751d8be91573e62a821e6c81c9", func := "spillway/spillwaylaw16.GuardOther", spec := "guardOther", inPlace := ["math/bits.Add64"], unfollowed := true, recurses := true, apart := false }
def GuardOtherSaid : Prop := guardOtherRow.holds Try.pinned (OpenSpec.ofChange guardOtherSpec)

/-- ITS FALSE NEIGHBOUR: 'it returns false'. Refute it at one input. -/
def guardOtherWrong : ChangeSpec := { name := "guardOther", fn := fun _ => fun
  | [d1, d2] => { results := [.lit (.bool false)], args := [d1, d2] }
  | _ => none }
def GuardOtherWrongFalsely : Prop := guardOtherRow.holds Try.pinned (OpenSpec.ofChange guardOtherWrong)

/-- 'spillwaylaw16.GuardLists': WHATEVER THE INPUT: true; the input reads as it did. -/
def guardListsSpec : ChangeSpec := { name := "guardLists", fn := fun _ => fun
  | [d1, d2, d3] => { results := [.lit (.bool true)], args := [d1, d2, d3] }
  | _ => none }
def guardListsRow : OpenClaim := { program := "ytnobfmlfhaaghaa", sum := "13010058ef1b6e693cbbd32fc13b559600d28f751d8be91573e62a821e6c81c9", func := "spillway/spillwaylaw16.GuardLists", spec := "guardLists", inPlace := ["math/bits.Add64"], unfollowed := true, recurses := true, apart := false }
def GuardListsSaid : Prop := guardListsRow.holds Try.pinned (OpenSpec.ofChange guardListsSpec)

/-- ITS FALSE NEIGHBOUR: 'it returns false'. Refute it at one input. -/
def guardListsWrong : ChangeSpec := { name := "guardLists", fn := fun _ => fun
  | [d1, d2, d3] => { results := [.lit (.bool false)], args := [d1, d2, d3] }
  | _ => none }
def GuardListsWrongFalsely : Prop := guardListsRow.holds Try.pinned (OpenSpec.ofChange guardListsWrong)

/-- 'spillwaylaw16.GuardRoom': WHATEVER THE INPUT: true; the input reads as it did. -/
def guardRoomSpec : ChangeSpec := { name := "guardRoom", fn := fun _ => fun
  | [d1, d2, d3] => { results := [.lit (.bool true)], args := [d1, d2, d3] }
  | _ => none }
def guardRoomRow : OpenClaim := { program := "ytnobfmlfhaaghaa", sum := "13010058ef1b6e693cbbd32fc13b559600d28f751d8be91573e62a821e6c81c9", func := "spillway/spillwaylaw16.GuardRoom", spec := "guardRoom", inPlace := ["math/bits.Add64", "math/bits.Sub64"], unfollowed := true, recurses := true, named := ["math/bits.divideError", "math/bits.overflowError"], apart := false }
def GuardRoomSaid : Prop := guardRoomRow.holds Try.pinned (OpenSpec.ofChange guardRoomSpec)

/-- ITS FALSE NEIGHBOUR: 'it returns false'. Refute it at one input. -/
def guardRoomWrong : ChangeSpec := { name := "guardRoom", fn := fun _ => fun
  | [d1, d2, d3] => { results := [.lit (.bool false)], args := [d1, d2, d3] }
  | _ => none }
def GuardRoomWrongFalsely : Prop := guardRoomRow.holds Try.pinned (OpenSpec.ofChange guardRoomWrong)

/-- 'spillwaylaw16.GuardRules': WHATEVER THE INPUT: true; the input reads as it did. -/
def guardRulesSpec : ChangeSpec := { name := "guardRules", fn := fun _ => fun
  | [d1, d2, d3] => { results := [.lit (.bool true)], args := [d1, d2, d3] }
  | _ => none }
def guardRulesRow : OpenClaim := { program := "ytnobfmlfhaaghaa", sum := "13010058ef1b6e693cbbd32fc13b559600d28f751d8be91573e62a821e6c81c9", func := "spillway/spillwaylaw16.GuardRules", spec := "guardRules", inPlace := ["math/bits.Add64", "math/bits.Sub64"], unfollowed := true, recurses := true, named := ["math/bits.divideError", "math/bits.overflowError"], apart := false }
def GuardRulesSaid : Prop := guardRulesRow.holds Try.pinned (OpenSpec.ofChange guardRulesSpec)

/-- ITS FALSE NEIGHBOUR: 'it returns false'. Refute it at one input. -/
def guardRulesWrong : ChangeSpec := { name := "guardRules", fn := fun _ => fun
  | [d1, d2, d3] => { results := [.lit (.bool false)], args := [d1, d2, d3] }
  | _ => none }
def GuardRulesWrongFalsely : Prop := guardRulesRow.holds Try.pinned (OpenSpec.ofChange guardRulesWrong)

/- THE SECOND FORM. 'bulk': how many values and letters a reading holds, each counted each time it is reached (what is shared counts as often as it is met; a slice's spare places count too). A statement '..UptoSaid' is the law's where the arguments, and the package variables that the reading takes, are together of bulk at most 1048576: NARROWER than '..Said'. Prove '..Said' where nothing that the law and all that it calls make is longer than what came in: it says more and counts as full. Else prove '..UptoSaid'. A law counts once. -/
mutual
def uptoBulk {H : Type} : DataW H → Nat
  | .lit (.string bytes) => bytes.length + 1
  | .lit _ => 1
  | .nil => 1
  | .ptr d => uptoBulk d + 1
  | .slice elems spare => uptoBulkAll elems + uptoBulkAll spare + 1
  | .agg parts => uptoBulkAll parts + 1
  | .iface _ d => uptoBulk d + 1
  | .map entries => uptoBulkEntries entries + 1
  | .held _ => 1
def uptoBulkAll {H : Type} : List (DataW H) → Nat
  | [] => 0
  | d :: r => uptoBulk d + uptoBulkAll r
def uptoBulkEntries {H : Type} : List (Lit × DataW H) → Nat
  | [] => 0
  | x :: r => uptoBulkEntry x + uptoBulkEntries r
def uptoBulkEntry {H : Type} : Lit × DataW H → Nat
  | (.string bytes, d) => bytes.length + uptoBulk d + 1
  | (_, d) => uptoBulk d + 1
 end
def uptoSmall : (H : Type) → List (DataW H) → Bool := fun _ ds => decide (uptoBulkAll ds ≤ 1048576)
def OpenSpec.upto (s : _root_.Go.ChangeSpec) : _root_.Go.OpenSpec := { _root_.Go.OpenSpec.ofChange s with cond := some uptoSmall }

/-- 'spillwaylaw16.GuardLess', WHERE WHAT IT READS IS OF BULK AT MOST 1048576: true; the input reads as it did. -/
def guardLessUptoRow : OpenClaim := { program := "ytnobfmlfhaaghaa", sum := "13010058ef1b6e693cbbd32fc13b559600d28f751d8be91573e62a821e6c81c9", func := "spillway/spillwaylaw16.GuardLess", spec := "guardLess", inPlace := ["math/bits.Add64"], unfollowed := true, recurses := true, apart := false, narrowed := true }
def GuardLessUptoSaid : Prop := guardLessUptoRow.holds Try.pinned (OpenSpec.upto guardLessSpec)

/-- 'spillwaylaw16.GuardOther', WHERE WHAT IT READS IS OF BULK AT MOST 1048576: true; the input reads as it did. -/
def guardOtherUptoRow : OpenClaim := { program := "ytnobfmlfhaaghaa", sum := "13010058ef1b6e693cbbd32fc13b559600d28f751d8be91573e62a821e6c81c9", func := "spillway/spillwaylaw16.GuardOther", spec := "guardOther", inPlace := ["math/bits.Add64"], unfollowed := true, recurses := true, apart := false, narrowed := true }
def GuardOtherUptoSaid : Prop := guardOtherUptoRow.holds Try.pinned (OpenSpec.upto guardOtherSpec)

/-- 'spillwaylaw16.GuardLists', WHERE WHAT IT READS IS OF BULK AT MOST 1048576: true; the input reads as it did. -/
def guardListsUptoRow : OpenClaim := { program := "ytnobfmlfhaaghaa", sum := "13010058ef1b6e693cbbd32fc13b559600d28f751d8be91573e62a821e6c81c9", func := "spillway/spillwaylaw16.GuardLists", spec := "guardLists", inPlace := ["math/bits.Add64"], unfollowed := true, recurses := true, apart := false, narrowed := true }
def GuardListsUptoSaid : Prop := guardListsUptoRow.holds Try.pinned (OpenSpec.upto guardListsSpec)

/-- 'spillwaylaw16.GuardRoom', WHERE WHAT IT READS IS OF BULK AT MOST 1048576: true; the input reads as it did. -/
def guardRoomUptoRow : OpenClaim := { program := "ytnobfmlfhaaghaa", sum := "13010058ef1b6e693cbbd32fc13b559600d28f751d8be91573e62a821e6c81c9", func := "spillway/spillwaylaw16.GuardRoom", spec := "guardRoom", inPlace := ["math/bits.Add64", "math/bits.Sub64"], unfollowed := true, recurses := true, named := ["math/bits.divideError", "math/bits.overflowError"], apart := false, narrowed := true }
def GuardRoomUptoSaid : Prop := guardRoomUptoRow.holds Try.pinned (OpenSpec.upto guardRoomSpec)

/-- 'spillwaylaw16.GuardRules', WHERE WHAT IT READS IS OF BULK AT MOST 1048576: true; the input reads as it did. -/
def guardRulesUptoRow : OpenClaim := { program := "ytnobfmlfhaaghaa", sum := "13010058ef1b6e693cbbd32fc13b559600d28f751d8be91573e62a821e6c81c9", func := "spillway/spillwaylaw16.GuardRules", spec := "guardRules", inPlace := ["math/bits.Add64", "math/bits.Sub64"], unfollowed := true, recurses := true, named := ["math/bits.divideError", "math/bits.overflowError"], apart := false, narrowed := true }
def GuardRulesUptoSaid : Prop := guardRulesUptoRow.holds Try.pinned (OpenSpec.upto guardRulesSpec)

end Rows
end Go.Proofs.Ytnobfmlfhaaghaa
