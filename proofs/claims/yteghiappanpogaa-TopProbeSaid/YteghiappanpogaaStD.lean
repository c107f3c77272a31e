/- stat: Mean; what must be whatever is asked. -/
import Derived.Test.YteghiappanpogaaStC
namespace Go.Proofs.Yteghiappanpogaa
open Go.RowKit
set_option linter.unusedVariables false
set_option linter.unusedSimpArgs false

theorem below_drewG {n : Nat} {a w : World} (h : Below n a w) (q : Nat) : Below n a (w.drewN q) := ⟨h.os, h.tape, h.output, h.size, h.block⟩
theorem madeN_q (N : Nat) : (madeN N).q = N + 4 := rfl
theorem ints_one (w : World) (n : Int) : IntsAt (w.alloc (.cells #[.int .i64 n] 3)) (some ⟨w.heap.size, 0, none⟩) [n] := by
  have hn : (w.alloc (.cells #[.int .i64 n] 3)).heap[w.heap.size]? = some (.cells #[.int .i64 n] 3) := (get_allocW w _ _).trans (if_pos rfl)
  refine Or.inr ⟨w.heap.size, 0, rfl, by simp, fun j hj => ?_⟩
  have : j = 0 := by simp at hj; omega
  subst this
  simp only [World.cell?, hn]
  rfl
theorem belowNew {w w' w9 : World} {k : NBk} (hk : ∀ i, NOwn k i → w.heap.size ≤ i) (hb : Below w.heap.size w w') (ho : Off (NOwn k) w' w9) : Below w.heap.size w w9 := hb.trans (ho.below hb.size (fun i hi h => by have := hk i h; omega))
end Go.Proofs.Yteghiappanpogaa
