/- How a slice of texts that came in is opened. -/
import Derived.ProofKit
import Derived.OpenShut
import Derived.SizedLaws
import Derived.SliceStrings
import Derived.Test.YtebjnmhnijkgaaaRows
import Derived.Test.YtebjnmhnijkgaaaGLruA
import Derived.Test.YtebjnmhnijkgaaaGRecs
namespace Go.Proofs.Ytebjnmhnijkgaaa
open Go.ChangeShapes Go.WideShapes Go.ChangeAt Go.RowKit
set_option linter.unusedVariables false

theorem bytes_strS : Try.prog.bytesOf 9 = 16 := by kernel_rfl

theorem recs_strz {H : Type} {enc : TypeId × Value → H} {W : World} {spare : Nat → Bool} {held : Bool} {base t m : Nat} {v : Value} {y : DataW H × List MemPlace}
    (ht : Try.prog.underlying t = some .string) (h : DataW.trod enc Try.prog W base spare held m t [v] = some y) : v = .string (strOf v) ∧ (strOf v).size ≤ maxLen := by
  obtain ⟨n, hv, _, hx⟩ := DataW.trod_string ht h
  simp at hv
  subst hv
  exact ⟨rfl, hx⟩

/-- What a slice of texts reads as, of whatever cell it lies in. -/
theorem read_strs {H : Type} {enc : TypeId × Value → H} {W : World} {spare : Nat → Bool} {held : Bool} {base t fuel : Nat} {v : Value} {x : DataW H × List MemPlace}
    (ht : Try.prog.underlying t = some (.slice 9)) (hf : DataW.trod enc Try.prog W base spare held fuel t [v] = some x) :
    ∃ (a : Option Addr) (len cap : Nat) (ss : List ByteArray), v = .slice a len cap ∧ ss.length = len ∧ len ≤ maxLen ∧ StrsAt W a ss ∧ (∀ s, s ∈ ss → s.size ≤ maxLen) ∧ (0 < len → ∃ rest, x.1 = .slice (strs ss) rest) := by
  rcases open_strings ht Try.underlying9 (by kernel_rfl) hf with ⟨hcs, hx⟩ | ⟨a, len, cap, zs, hcs, _, hl, hm, hz, hx, hcell, hwz⟩
  · simp at hcs
    subst hcs
    exact ⟨none, 0, 0, [], rfl, rfl, by omega, Or.inl rfl, by simp, by omega⟩
  · simp at hcs
    subst hcs
    have hzl : len ≤ zs.length := by rw [hz]; split <;> omega
    refine ⟨some a, len, cap, zs.take len, rfl, by simp; omega, by omega, ?_, fun s hs => hwz s (List.mem_of_mem_take hs), fun _ => ⟨_, by rw [hx]⟩⟩
    by_cases h0 : len = 0
    · left; simp [h0]
    · right
      have h1 := hcell 0 (by omega)
      obtain ⟨b, off, spot⟩ := a
      have hspot : spot = none := by simpa [Addr.add] using World.cell?_spot h1
      subst hspot
      refine ⟨b, off, rfl, ?_, fun j hj => ?_⟩
      · have := World.block_lt_of_cell? W _ h1
        simpa [add_plain] using this
      · have hj' : j < len := by simp at hj; omega
        have h2 := hcell j (by omega)
        rw [add_plain] at h2
        rw [h2]
        simp [List.getD, hj']
        rfl

set_option maxRecDepth 100000 in
theorem open_strsS {H : Type} {enc : TypeId × Value → H} {W : World} {spare : Nat → Bool} {held : Bool} {base b0 t : Nat} {r : Reach} {v : Value} {d : DataW H} {p : List MemPlace} {ts : List TypeId} {ds : List (DataW H)} {j : Nat}
    (ht : Try.prog.underlying t = some (.slice 9)) (hval : Value.okWide Try.prog W r b0 t v) (hd : DataW.Trod enc Try.prog W base spare held t v d p)
    (hj : ts[j]? = some t) (hdj : ds[j]? = some d) (hsz : (DataW.weightsEach Try.prog ts ds).all (· ≤ reachBytes) = true) :
    ∃ (a : Option Addr) (len cap : Nat) (ss : List ByteArray), v = .slice a len cap ∧ ss.length = len ∧ len ≤ 140737488351232 ∧ StrsAt W a ss ∧ (∀ s, s ∈ ss → s.size ≤ maxLen) := by
  obtain ⟨a, len, cap, rfl⟩ := okWide_slice ht hval
  obtain ⟨fuel, hf⟩ := hd
  obtain ⟨a', len', cap', ss, e, hl, hm, hs, hz, hx⟩ := read_strs ht hf
  injection e with e1 e2 e3
  subst e1 e2 e3
  refine ⟨a, len, cap, ss, rfl, hl, ?_, hs, hz⟩
  by_cases h0 : len = 0
  · omega
  · obtain ⟨rest, hx⟩ := hx (by omega)
    simp only at hx
    subst hx
    have h1 := sized_slice hsz hj hdj ht
    rw [bytes_strS] at h1
    simp only [strs, List.length_map, reachBytes] at h1
    omega
end Go.Proofs.Ytebjnmhnijkgaaa
