/- Two int64 behind each other in a new block, and their kept sum. -/
import Derived.Test.YteghiappanpogaaNumLists
namespace Go.Proofs.Yteghiappanpogaa
open Go.RowKit
theorem keepSum_two (a b : Int) (h : -9223372036854775808 ≤ a ∧ a ≤ 9223372036854775807) : keepSum [a, b] = keep (a + b) := by
  simp only [keepSum, List.foldl_cons, List.foldl_nil, Int.zero_add]
  rw [keep_fit (fitB_yes h.1 h.2)]
theorem two_at (w : World) (a b : Int) : IntsAt (w.alloc (.cells #[.int .i64 a, .int .i64 b] 3)) (some ⟨w.heap.size, 0, none⟩) [a, b] :=
  Or.inr ⟨_, 0, rfl, by simp, fun j hj => by
    have : j = 0 ∨ j = 1 := by simp at hj; omega
    rcases this with rfl | rfl <;> simp [go_sem]⟩
end Go.Proofs.Yteghiappanpogaa
