/- How rows of int64 and texts within structs that came in are opened. -/
import Derived.Test.YtogdnacambjhpaaRows
import Derived.Test.YtogdnacambjhpaaOpenI
import Derived.Test.YtogdnacambjhpaaRecs2
import Derived.ProofKit
import Derived.OpenShut
import Derived.SizedLaws
namespace Go.Proofs.Ytogdnacambjhpaa
open Go.ChangeShapes Go.WideShapes Go.ChangeAt Go.RowKit
set_option linter.unusedVariables false

theorem recs_strz {H : Type} {enc : TypeId × Value → H} {W : World} {spare : Nat → Bool} {held : Bool} {base t m : Nat} {v : Value} {y : DataW H × List MemPlace}
    (ht : Try.prog.underlying t = some .string) (h : DataW.trod enc Try.prog W base spare held m t [v] = some y) : v = .string (strOf v) ∧ (strOf v).size ≤ maxLen := by
  obtain ⟨n, hv, _, hx⟩ := DataW.trod_string ht h
  simp at hv
  subst hv
  exact ⟨rfl, hx⟩

set_option maxRecDepth 100000 in
theorem read_i64s {H : Type} {enc : TypeId × Value → H} {W : World} {spare : Nat → Bool} {held : Bool} {base t fuel : Nat} {v : Value} {x : DataW H × List MemPlace}
    (ht : Try.prog.underlying t = some (.slice 3)) (hf : DataW.trod enc Try.prog W base spare held fuel t [v] = some x) :
    ∃ (a : Option Addr) (len cap : Nat) (xs : List Int), v = .slice a len cap ∧ xs.length = len ∧ len ≤ 9223372036854775807 ∧ I64s xs ∧ IntsAt W a xs := by
  rcases open_ints ht Try.underlying3 (by kernel_rfl) hf with ⟨hcs, _⟩ | ⟨a, l, c, zs, hcs, _, hl, hm, hz, hx, hcell, hwz⟩
  · simp at hcs
    subst hcs
    exact ⟨none, 0, 0, [], rfl, rfl, by omega, by intro x hx; simp at hx, Or.inl rfl⟩
  · simp at hcs
    subst hcs
    have hzl : l ≤ zs.length := by rw [hz]; split <;> omega
    refine ⟨some a, l, c, zs.take l, rfl, by simp; omega, by unfold maxLen at *; omega, ?_, ?_⟩
    · intro n hn
      exact wf64' (hwz n (List.mem_of_mem_take hn))
    · by_cases h0 : l = 0
      · left; simp [h0]
      · right
        obtain ⟨b, off, rfl, hc⟩ := ints_at hcell (by omega)
        refine ⟨b, off, rfl, ?_, fun j hj => ?_⟩
        · have := hc 0 (by omega)
          exact World.block_lt_of_cell? W _ this
        · have hj' : j < l := by simp at hj; omega
          rw [hc j (by omega)]
          simp [List.getD, hj']
end Go.Proofs.Ytogdnacambjhpaa
