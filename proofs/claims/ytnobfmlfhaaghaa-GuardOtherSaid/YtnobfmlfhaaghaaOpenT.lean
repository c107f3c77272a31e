/- How texts and rows of texts within structs that came in are opened. -/
import Derived.Test.YtnobfmlfhaaghaaRows
import Derived.Test.YtnobfmlfhaaghaaRuB
import Derived.Test.YtnobfmlfhaaghaaRecs2
import Derived.ProofKit
import Derived.OpenShut
import Derived.SizedLaws
import Derived.SliceStrings
namespace Go.Proofs.Ytnobfmlfhaaghaa
open Go.ChangeShapes Go.WideShapes Go.ChangeAt Go.RowKit
set_option linter.unusedVariables false

theorem recs_strz {H : Type} {enc : TypeId × Value → H} {W : World} {spare : Nat → Bool} {held : Bool} {base t m : Nat} {v : Value} {y : DataW H × List MemPlace}
    (ht : Try.prog.underlying t = some .string) (h : DataW.trod enc Try.prog W base spare held m t [v] = some y) : v = .string (strOf v) ∧ (strOf v).size ≤ maxLen := by
  obtain ⟨n, hv, _, hx⟩ := DataW.trod_string ht h
  simp at hv
  subst hv
  exact ⟨rfl, hx⟩

set_option maxRecDepth 100000 in
theorem read_texts {H : Type} {enc : TypeId × Value → H} {W : World} {spare : Nat → Bool} {held : Bool} {base t fuel : Nat} {v : Value} {x : DataW H × List MemPlace}
    (ht : Try.prog.underlying t = some (.slice 9)) (hf : DataW.trod enc Try.prog W base spare held fuel t [v] = some x) :
    ∃ (a : Option Addr) (len cap : Nat) (ss : List ByteArray), v = .slice a len cap ∧ ss.length = len ∧ len ≤ 9223372036854775807 ∧ len ≤ cap ∧ TextsAt W a ss ∧ (∀ s, s ∈ ss → s.size ≤ maxLen) := by
  rcases open_strings ht Try.underlying9 (by kernel_rfl) hf with ⟨hcs, hx⟩ | ⟨a, len, cap, zs, hcs, _, hl, hm, hz, hx, hcell, hwz⟩
  · simp at hcs
    subst hcs
    exact ⟨none, 0, 0, [], rfl, rfl, by omega, by omega, Or.inl rfl, by simp⟩
  · simp at hcs
    subst hcs
    have hzl : len ≤ zs.length := by rw [hz]; split <;> omega
    refine ⟨some a, len, cap, zs.take len, rfl, by simp; omega, by unfold maxLen at *; omega, by omega, ?_, fun s hs => hwz s (List.mem_of_mem_take hs)⟩
    by_cases h0 : len = 0
    · left; simp [h0]
    · right
      have h1 := hcell 0 (by omega)
      obtain ⟨b, off, spot⟩ := a
      have hspot : spot = none := by simpa [Addr.add] using World.cell?_spot h1
      subst hspot
      refine ⟨b, off, rfl, ?_, fun j hj => ?_⟩
      · have := World.block_lt_of_cell? W _ h1
        simpa [add_plain] using this
      · have hj' : j < len := by simp at hj; omega
        have h2 := hcell j (by omega)
        rw [add_plain] at h2
        rw [h2]
        simp [List.getD, hj']
        rfl
end Go.Proofs.Ytnobfmlfhaaghaa
