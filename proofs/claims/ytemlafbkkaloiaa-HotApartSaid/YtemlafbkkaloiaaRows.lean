/-
  No cell of these rows narrows 'for every input' (looked for: loops, veiled, ifaces, maps, wideKeys, modest, calm, conditions, laid).
  DERIVED. THE GIVEN ROWS OF THIS SEAT. 3 by the template 'for every input the law returns true; each argument reads behind the call as it read before'; 0 by the template 'total and deterministic' (their statements: YtemlafbkkaloiaaTotals.lean).
  GIVEN WITH THE SEED: the statements are not yours to turn. If you find one false, say at which input.
  Laid BY PROGRAM, IN A SANDBOX (cutbox-rows.mjs): the forced cells as the released guide's own fill.sh prints them over the translation e6b2dc7712abe96b… (all of the seat's roots in one cut). By AI agents, Wed Nov 11 2026. No macro, syntax, notation, axiom, sorry.
-/
import Derived.Test.YtemlafbkkaloiaaChecked
import GoSem.Claim
import GoSem.ClaimJoined
import GoSem.ClaimMapViews
import Derived.JoinedTies
import Derived.KernelRfl
namespace Go.Proofs.Ytemlafbkkaloiaa
/- THE CELL 'sum', in the pinned program and in every row, IS THE sha256 OF THE DUMP (.gsa) THAT YtemlafbkkaloiaaProg.lean LOADS. Nothing in Lean hashes anything: it is a label: what it is worth is what the hold of that sum in a sandbox is worth. -/
noncomputable def Try.pinned : Pinned := { name := "ytemlafbkkaloiaa", sum := "e6b2dc7712abe96b5548a5531f2f82e332bfddc65e91bd412f841f1897ebfb03", checked := Try.checked }
namespace Rows
def none {H : Type} : Left H := { results := [], args := [] }

/-- 'spillwaylaw15.HotLooks': WHATEVER THE INPUT: true; the input reads as it did. -/
def hotLooksSpec : ChangeSpec := { name := "hotLooks", fn := fun _ => fun
  | [d1, d2] => { results := [.lit (.bool true)], args := [d1, d2] }
  | _ => none }
def hotLooksRow : OpenClaim := { program := "ytemlafbkkaloiaa", sum := "e6b2dc7712abe96b5548a5531f2f82e332bfddc65e91bd412f841f1897ebfb03", func := "spillway/spillwaylaw15.HotLooks", spec := "hotLooks", unfollowed := true, recurses := true, plainKeys := false, apart := false }
def HotLooksSaid : Prop := hotLooksRow.holds Try.pinned (OpenSpec.ofChange hotLooksSpec)

/-- ITS FALSE NEIGHBOUR: 'it returns false'. Refute it at one input. -/
def hotLooksWrong : ChangeSpec := { name := "hotLooks", fn := fun _ => fun
  | [d1, d2] => { results := [.lit (.bool false)], args := [d1, d2] }
  | _ => none }
def HotLooksWrongFalsely : Prop := hotLooksRow.holds Try.pinned (OpenSpec.ofChange hotLooksWrong)

/-- 'spillwaylaw15.HotBounds': WHATEVER THE INPUT: true; the input reads as it did. -/
def hotBoundsSpec : ChangeSpec := { name := "hotBounds", fn := fun _ => fun
  | [d1, d2] => { results := [.lit (.bool true)], args := [d1, d2] }
  | _ => none }
def hotBoundsRow : OpenClaim := { program := "ytemlafbkkaloiaa", sum := "e6b2dc7712abe96b5548a5531f2f82e332bfddc65e91bd412f841f1897ebfb03", func := "spillway/spillwaylaw15.HotBounds", spec := "hotBounds", unfollowed := true, recurses := true, plainKeys := false, apart := false }
def HotBoundsSaid : Prop := hotBoundsRow.holds Try.pinned (OpenSpec.ofChange hotBoundsSpec)

/-- ITS FALSE NEIGHBOUR: 'it returns false'. Refute it at one input. -/
def hotBoundsWrong : ChangeSpec := { name := "hotBounds", fn := fun _ => fun
  | [d1, d2] => { results := [.lit (.bool false)], args := [d1, d2] }
  | _ => none }
def HotBoundsWrongFalsely : Prop := hotBoundsRow.holds Try.pinned (OpenSpec.ofChange hotBoundsWrong)

/-- 'spillwaylaw15.HotApart': WHATEVER THE INPUT: true; the input reads as it did. -/
def hotApartSpec : ChangeSpec := { name := "hotApart", fn := fun _ => fun
  | [d1, d2] => { results := [.lit (.bool true)], args := [d1, d2] }
  | _ => none }
def hotApartRow : OpenClaim := { program := "ytemlafbkkaloiaa", sum := "e6b2dc7712abe96b5548a5531f2f82e332bfddc65e91bd412f841f1897ebfb03", func := "spillway/spillwaylaw15.HotApart", spec := "hotApart", inPlace := ["maps.clone"], unfollowed := true, recurses := true, plainKeys := false, apart := false }
def HotApartSaid : Prop := hotApartRow.holds Try.pinned (OpenSpec.ofChange hotApartSpec)

/-- ITS FALSE NEIGHBOUR: 'it returns false'. Refute it at one input. -/
def hotApartWrong : ChangeSpec := { name := "hotApart", fn := fun _ => fun
  | [d1, d2] => { results := [.lit (.bool false)], args := [d1, d2] }
  | _ => none }
def HotApartWrongFalsely : Prop := hotApartRow.holds Try.pinned (OpenSpec.ofChange hotApartWrong)

/- THE SECOND FORM. 'bulk': how many values and letters a reading holds, each counted each time it is reached (what is shared counts as often as it is met; a slice's spare places count too). A statement '..UptoSaid' is the law's where the arguments, and the package variables that the reading takes, are together of bulk at most 1048576: NARROWER than '..Said'. Prove '..Said' where nothing that the law and all that it calls make is longer than what came in: it says more and counts as full. Else prove '..UptoSaid'. A law counts once. -/
mutual
def uptoBulk {H : Type} : DataW H → Nat
  | .lit (.string bytes) => bytes.length + 1
  | .lit _ => 1
  | .nil => 1
  | .ptr d => uptoBulk d + 1
  | .slice elems spare => uptoBulkAll elems + uptoBulkAll spare + 1
  | .agg parts => uptoBulkAll parts + 1
  | .iface _ d => uptoBulk d + 1
  | .map entries => uptoBulkEntries entries + 1
  | .held _ => 1
def uptoBulkAll {H : Type} : List (DataW H) → Nat
  | [] => 0
  | d :: r => uptoBulk d + uptoBulkAll r
def uptoBulkEntries {H : Type} : List (Lit × DataW H) → Nat
  | [] => 0
  | x :: r => uptoBulkEntry x + uptoBulkEntries r
def uptoBulkEntry {H : Type} : Lit × DataW H → Nat
  | (.string bytes, d) => bytes.length + uptoBulk d + 1
  | (_, d) => uptoBulk d + 1
 end
def uptoSmall : (H : Type) → List (DataW H) → Bool := fun _ ds => decide (uptoBulkAll ds ≤ 1048576)
def OpenSpec.upto (s : _root_.Go.ChangeSpec) : _root_.Go.OpenSpec := { _root_.Go.OpenSpec.ofChange s with cond := some uptoSmall }

/-- 'spillwaylaw15.HotLooks', WHERE WHAT IT READS IS OF BULK AT MOST 1048576: true; the input reads as it did. -/
def hotLooksUptoRow : OpenClaim := { program := "ytemlafbkkaloiaa", sum := "e6b2dc7712abe96b5548a5531f2f82e332bfddc65e91bd412f841f1897ebfb03", func := "spillway/spillwaylaw15.HotLooks", spec := "hotLooks", unfollowed := true, recurses := true, plainKeys := false, apart := false, narrowed := true }
def HotLooksUptoSaid : Prop := hotLooksUptoRow.holds Try.pinned (OpenSpec.upto hotLooksSpec)

/-- 'spillwaylaw15.HotBounds', WHERE WHAT IT READS IS OF BULK AT MOST 1048576: true; the input reads as it did. -/
def hotBoundsUptoRow : OpenClaim := { program := "ytemlafbkkaloiaa", sum := "e6b2dc7712abe96b5548a5531f2f82e332bfddc65e91bd412f841f1897ebfb03", func := "spillway/spillwaylaw15.HotBounds", spec := "hotBounds", unfollowed := true, recurses := true, plainKeys := false, apart := false, narrowed := true }
def HotBoundsUptoSaid : Prop := hotBoundsUptoRow.holds Try.pinned (OpenSpec.upto hotBoundsSpec)

/-- 'spillwaylaw15.HotApart', WHERE WHAT IT READS IS OF BULK AT MOST 1048576: true; the input reads as it did. -/
def hotApartUptoRow : OpenClaim := { program := "ytemlafbkkaloiaa", sum := "e6b2dc7712abe96b5548a5531f2f82e332bfddc65e91bd412f841f1897ebfb03", func := "spillway/spillwaylaw15.HotApart", spec := "hotApart", inPlace := ["maps.clone"], unfollowed := true, recurses := true, plainKeys := false, apart := false, narrowed := true }
def HotApartUptoSaid : Prop := hotApartUptoRow.holds Try.pinned (OpenSpec.upto hotApartSpec)

end Rows
end Go.Proofs.Ytemlafbkkaloiaa
