/- stat: Done, Sum, Past. -/
import Derived.Test.YteghiappanpogaaStB
namespace Go.Proofs.Yteghiappanpogaa
open Go.RowKit
set_option linter.unusedVariables false
set_option linter.unusedSimpArgs false

def doneE (last flight at_ rt : Int) : Int := if lookW last at_ = 2 ∨ isT rt = false then 2 else if lookW last at_ ≠ 0 then lookW last at_ else if flight = 0 then 4 else 0
def doneC (rt : Int) (failed : Bool) : CntS := ⟨0, 0, 1, if failed then 1 else 0, rt, rt⟩
theorem doneC_right {rt : Int} (h : isT rt = true) (failed : Bool) : RightC (doneC rt failed) := by
  simp [isT] at h
  cases failed <;> constructor <;> simp [doneC] <;> omega
theorem lookW_cases (last at_ : Int) : lookW last at_ = 0 ∨ lookW last at_ = 2 ∨ lookW last at_ = 7 := by
  unfold lookW; split
  · simp
  · split <;> simp

theorem cts_one {w : World} (c : CntS) : CtsAt (w.alloc (ctO c 59)) (some ⟨w.heap.size, 0, none⟩) [c] := by
  have hn : (w.alloc (ctO c 59)).heap[w.heap.size]? = some (ctO c 59) := (get_allocW w _ _).trans (if_pos rfl)
  refine Or.inr ⟨w.heap.size, 0, rfl, by simp, fun j x hx => ?_⟩
  obtain ⟨hj, hx2⟩ := List.getElem?_eq_some_iff.1 hx
  have : j = 0 := by simp at hj; omega
  subst this
  obtain rfl : c = x := by simpa using hx2
  simpa using (ct_cells hn).1

end Go.Proofs.Yteghiappanpogaa
