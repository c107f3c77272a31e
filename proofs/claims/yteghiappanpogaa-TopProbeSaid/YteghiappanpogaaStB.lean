/- stat: note, Pass, Block, Done, Sum, Past. -/
import Derived.Test.YteghiappanpogaaStA
namespace Go.Proofs.Yteghiappanpogaa
open Go.RowKit
set_option linter.unusedVariables false
set_option linter.unusedSimpArgs false

def passC (c : Int) : CntS := ⟨c, 0, 0, 0, 0, 0⟩
def blockC (c : Int) : CntS := ⟨0, c, 0, 0, 0, 0⟩
theorem passC_right {c : Int} (h0 : 1 ≤ c) (h1 : c ≤ 1099511627776) : RightC (passC c) := by constructor <;> simp [passC] <;> omega
theorem blockC_right {c : Int} (h0 : 1 ≤ c) (h1 : c ≤ 1099511627776) : RightC (blockC c) := by constructor <;> simp [blockC] <;> omega
theorem newsC (w : World) (c : CntS) : ∀ j u, (flatC [c])[j]? = some u → (w.alloc (ctO c 59)).cell? ((⟨w.heap.size, 0, none⟩ : Addr).add j) = some u := by
  intro j u hu
  have hn : (w.alloc (ctO c 59)).heap[w.heap.size]? = some (ctO c 59) := (get_allocW w _ _).trans (if_pos rfl)
  rw [WideShapes.add_plain, Nat.zero_add]
  obtain ⟨⟨z0, z1, z2, z3, z4, z5⟩, _⟩ := ct_cells hn
  have hl : j < 6 := by have := (List.getElem?_eq_some_iff.1 hu).1; simpa [flatC, CntS.vals] using this
  match j, hl with
  | 0, _ => have e : Value.int .i64 c.p = u := by simpa [flatC, CntS.vals] using hu
            rw [← e]; exact z0
  | 1, _ => have e : Value.int .i64 c.b = u := by simpa [flatC, CntS.vals] using hu
            rw [← e]; exact z1
  | 2, _ => have e : Value.int .i64 c.d = u := by simpa [flatC, CntS.vals] using hu
            rw [← e]; exact z2
  | 3, _ => have e : Value.int .i64 c.e = u := by simpa [flatC, CntS.vals] using hu
            rw [← e]; exact z3
  | 4, _ => have e : Value.int .i64 c.r = u := by simpa [flatC, CntS.vals] using hu
            rw [← e]; exact z4
  | 5, _ => have e : Value.int .i64 c.m = u := by simpa [flatC, CntS.vals] using hu
            rw [← e]; exact z5
theorem flatC_snoc (l : List CntS) (c : CntS) : flatC (l ++ [c]) = flatC l ++ flatC [c] := by simp [flatC]
/-- One more behind a row of its own. -/
theorem run_append_one {w wr : World} {v : Value} {j : Nat} {cs : List CntS} (hown : wr.ownsRow w.heap.size 59 6 v j (flatC cs)) (hb : Below w.heap.size w wr) (hj : j < 1099511627776) (c : CntS) (ty : TypeId) :
    ∃ v' w', (Builtin.append_ #[80, 80] ty #[v, .slice (some ⟨wr.heap.size, 0, none⟩) 1 1]).run Try.prog (wr.alloc (ctO c 59)) = .ok v' w' ∧ w'.ownsRow w.heap.size 59 6 v' (j + 1) (flatC (cs ++ [c])) ∧ Below w.heap.size w w' := by
  obtain ⟨i0, hi, hz0, hz1, hz2⟩ := info_parts info_ct
  obtain ⟨v', w', hr, h2, h3, h4⟩ := run_append_own (P := Try.prog) (wr.alloc (ctO c 59)) w.heap.size 80 ty 59 i0 _ 6 48 Try.underlying80 hi hz0 hz1 hz2 rfl (by decide) v j (flatC cs) (hown.alloc _) ⟨wr.heap.size, 0, none⟩ 1 1 (flatC [c]) rfl (newsC wr c) (flatC_one [c]) (by unfold maxLen; omega) (by omega) (by have := hb.size; simp; omega)
  refine ⟨v', w', hr, by rw [flatC_snoc]; exact h2, (hb.alloc hb.size _).grown h3 (by have := hb.size; simp; omega) (fun k e => ?_)⟩
  exact (hown.lt k e).1

/-- The error of Pass. -/
def passE (last flight at_ : Int) (ns : List Int) : Int := if lookN last at_ ns ≠ 0 then lookN last at_ ns else if 4096 - flight < ns.length then 3 else 0
def blockE (last flight at_ : Int) (ns : List Int) : Int := if lookN last at_ ns ≠ 0 then lookN last at_ ns else 0

end Go.Proofs.Yteghiappanpogaa
