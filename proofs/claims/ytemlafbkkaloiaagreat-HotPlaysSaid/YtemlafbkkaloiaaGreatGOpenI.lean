import Derived.ProofKit
import Derived.OpenShut
import Derived.SizedLaws
import Derived.Test.YtemlafbkkaloiaaGreatRows
import Derived.Test.YtemlafbkkaloiaaGreatInts
import Derived.Test.YtemlafbkkaloiaaGreatGRecs
set_option linter.unusedVariables false
namespace Go.Proofs.YtemlafbkkaloiaaGreat
open Go.ChangeShapes Go.WideShapes Go.ChangeAt Go.RowKit
end Go.Proofs.YtemlafbkkaloiaaGreat
namespace Go.Proofs.YtemlafbkkaloiaaGreat
open Go.ChangeShapes Go.WideShapes Go.ChangeAt Go.RowKit
theorem recs_strz {H : Type} {enc : TypeId × Value → H} {W : World} {spare : Nat → Bool} {held : Bool} {base t m : Nat} {v : Value} {y : DataW H × List MemPlace}
    (ht : Tryz.prog.underlying t = some .string) (h : DataW.trod enc Tryz.prog W base spare held m t [v] = some y) : v = .string (strOf v) ∧ (strOf v).size ≤ maxLen := by
  obtain ⟨n, hv, _, hx⟩ := DataW.trod_string ht h
  simp at hv
  subst hv
  exact ⟨rfl, hx⟩
end Go.Proofs.YtemlafbkkaloiaaGreat
