/- Texts of one chain, one behind the other: OpenI, OpenNI. -/
import Derived.ProofKit
import Derived.OpenShut
import Derived.SizedLaws
import Derived.Test.YtemlafbkkaloiaaGreatRows
import Derived.Test.YtemlafbkkaloiaaGreatInts
import Derived.Test.YtemlafbkkaloiaaGreatGRecs

/- How arguments are opened: a slice of int64 as a list. -/
namespace Go.Proofs.YtemlafbkkaloiaaGreat
open Go.ChangeShapes Go.WideShapes Go.ChangeAt Go.RowKit
set_option linter.unusedVariables false

theorem bytes_int : Tryz.prog.bytesOf 3 = 8 := by kernel_rfl
theorem wf64' {n : Int} (h : (Lit.int .i64 n).wf = true) : -9223372036854775808 ≤ n ∧ n ≤ 9223372036854775807 := by
  simp only [Lit.wf, IntKind.min, IntKind.max, IntKind.signed, IntKind.bits, Bool.and_eq_true, decide_eq_true_eq, if_true] at h
  omega

set_option maxRecDepth 100000 in
/-- A slice of int64 that came in: it reads as a list; what it takes is within the form's own reach. -/
theorem open_i64s {H : Type} {enc : TypeId × Value → H} {W : World} {spare : Nat → Bool} {held : Bool} {base b0 t : Nat} {r : Reach} {v : Value} {d : DataW H} {p : List MemPlace} {ts : List TypeId} {ds : List (DataW H)} {j : Nat}
    (ht : Tryz.prog.underlying t = some (.slice 3)) (hval : Value.okWide Tryz.prog W r b0 t v) (hd : DataW.Trod enc Tryz.prog W base spare held t v d p)
    (hj : ts[j]? = some t) (hdj : ds[j]? = some d) (hsz : (DataW.weightsEach Tryz.prog ts ds).all (· ≤ reachBytes) = true) :
    ∃ (a : Option Addr) (len cap : Nat) (xs : List Int), v = .slice a len cap ∧ xs.length = len ∧ len * 8 ≤ 140737488351232 ∧ I64s xs ∧ IntsAt W a xs ∧ (0 < len → a ≠ none) ∧ (a = none → cap = 0) := by
  obtain ⟨a, len, cap, rfl⟩ := okWide_slice ht hval
  obtain ⟨fuel, hf⟩ := hd
  rcases open_ints ht Tryz.underlying3 (by kernel_rfl) hf with ⟨hcs, _⟩ | ⟨x, l, c, zs, hcs, _, hl, hm, hz, hx, hcell, hwz⟩
  · simp [Value.cells] at hcs
    obtain ⟨rfl, rfl, rfl⟩ := hcs
    exact ⟨none, 0, 0, [], rfl, rfl, by omega, by intro x hx; simp at hx, Or.inl rfl, by omega, fun _ => rfl⟩
  · simp [Value.cells] at hcs
    obtain ⟨rfl, rfl, rfl⟩ := hcs
    simp only [Prod.mk.injEq] at hx
    obtain ⟨rfl, _⟩ := hx
    have hs := sized_slice hsz hj hdj ht
    rw [bytes_int] at hs
    have hzl : len ≤ zs.length := by rw [hz]; split <;> omega
    simp only [lits, List.length_map, List.length_take, List.length_drop, reachBytes] at hs
    refine ⟨some x, len, cap, zs.take len, rfl, by simp; omega, by omega, ?_, ?_, by simp, by simp⟩
    · intro n hn
      exact wf64' (hwz n (List.mem_of_mem_take hn))
    · by_cases h0 : len = 0
      · left; simp [h0]
      · right
        obtain ⟨b, off, rfl, hc⟩ := ints_at hcell (by omega)
        refine ⟨b, off, rfl, ?_, fun j hj => ?_⟩
        · have := hc 0 (by omega)
          exact World.block_lt_of_cell? W _ this
        · have hj' : j < len := by simp at hj; omega
          rw [hc j (by omega)]
          simp [List.getD, hj']
end Go.Proofs.YtemlafbkkaloiaaGreat

/- How rows of int64 and texts within structs that came in are opened. -/
namespace Go.Proofs.YtemlafbkkaloiaaGreat
open Go.ChangeShapes Go.WideShapes Go.ChangeAt Go.RowKit
set_option linter.unusedVariables false

theorem recs_strz {H : Type} {enc : TypeId × Value → H} {W : World} {spare : Nat → Bool} {held : Bool} {base t m : Nat} {v : Value} {y : DataW H × List MemPlace}
    (ht : Tryz.prog.underlying t = some .string) (h : DataW.trod enc Tryz.prog W base spare held m t [v] = some y) : v = .string (strOf v) ∧ (strOf v).size ≤ maxLen := by
  obtain ⟨n, hv, _, hx⟩ := DataW.trod_string ht h
  simp at hv
  subst hv
  exact ⟨rfl, hx⟩

set_option maxRecDepth 100000 in
theorem read_i64s {H : Type} {enc : TypeId × Value → H} {W : World} {spare : Nat → Bool} {held : Bool} {base t fuel : Nat} {v : Value} {x : DataW H × List MemPlace}
    (ht : Tryz.prog.underlying t = some (.slice 3)) (hf : DataW.trod enc Tryz.prog W base spare held fuel t [v] = some x) :
    ∃ (a : Option Addr) (len cap : Nat) (xs : List Int), v = .slice a len cap ∧ xs.length = len ∧ len ≤ 9223372036854775807 ∧ I64s xs ∧ IntsAt W a xs := by
  rcases open_ints ht Tryz.underlying3 (by kernel_rfl) hf with ⟨hcs, _⟩ | ⟨a, l, c, zs, hcs, _, hl, hm, hz, hx, hcell, hwz⟩
  · simp at hcs
    subst hcs
    exact ⟨none, 0, 0, [], rfl, rfl, by omega, by intro x hx; simp at hx, Or.inl rfl⟩
  · simp at hcs
    subst hcs
    have hzl : l ≤ zs.length := by rw [hz]; split <;> omega
    refine ⟨some a, l, c, zs.take l, rfl, by simp; omega, by unfold maxLen at *; omega, ?_, ?_⟩
    · intro n hn
      exact wf64' (hwz n (List.mem_of_mem_take hn))
    · by_cases h0 : l = 0
      · left; simp [h0]
      · right
        obtain ⟨b, off, rfl, hc⟩ := ints_at hcell (by omega)
        refine ⟨b, off, rfl, ?_, fun j hj => ?_⟩
        · have := hc 0 (by omega)
          exact World.block_lt_of_cell? W _ this
        · have hj' : j < l := by simp at hj; omega
          rw [hc j (by omega)]
          simp [List.getD, hj']
end Go.Proofs.YtemlafbkkaloiaaGreat
