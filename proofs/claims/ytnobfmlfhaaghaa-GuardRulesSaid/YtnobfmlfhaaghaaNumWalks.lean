/- The leaves of the layer num: size, told, Add, Sub, Within, edge, product, narrow: what each call returns; nothing that was there turns. -/
import Derived.Test.YtnobfmlfhaaghaaNumDiv
namespace Go.Proofs.Ytnobfmlfhaaghaa
open Go.RowKit
set_option linter.unusedVariables false

theorem ret_int {k : IntKind} {a b : Int} (h : a = b) : Ending.returned (.int k a) = .returned (.int k b) := by rw [h]
theorem ret_ib {k : IntKind} {a b : Int} {c d : Bool} (h : a = b) (h' : c = d) : Ending.returned (.tuple #[.int k a, .bool c]) = .returned (.tuple #[.int k b, .bool d]) := by rw [h, h']
theorem ret_ii {k k' : IntKind} {a b c d : Int} (h : a = b) (h' : c = d) : Ending.returned (.tuple #[.int k a, .int k' c]) = .returned (.tuple #[.int k b, .int k' d]) := by rw [h, h']

theorem div64_any (hi lo y : Int) (w : World) (h0 : 0 ≤ hi) (h1 : hi < y) (h2 : 0 ≤ lo) (h3 : lo < 18446744073709551616) (h5 : y < 18446744073709551616) :
    Calls Try.prog 82 #[.int .u64 hi, .int .u64 lo, .int .u64 y] w fun e w' => e = .returned (.tuple #[.int .u64 ((hi * 18446744073709551616 + lo) / y), .int .u64 ((hi * 18446744073709551616 + lo) % y)]) ∧ ∃ m, w' = w.drewN m := by
  by_cases h : hi = 0
  · subst h
    have := div64_zero lo y w h2 h3 (by omega) h5
    refine this.mono ?_
    rintro e w' ⟨rfl, hw⟩
    exact ⟨ret_uu (by simp) (by simp), hw⟩
  · exact div64_big hi lo y w (by omega) h1 h2 h3 h5

end Go.Proofs.Ytnobfmlfhaaghaa
