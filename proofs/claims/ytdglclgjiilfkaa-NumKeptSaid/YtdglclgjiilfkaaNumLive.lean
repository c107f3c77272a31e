/- The laws of the layer num: what all of them call: live, same. -/
import Derived.Test.YtdglclgjiilfkaaNumListsD
namespace Go.Proofs.Ytdglclgjiilfkaa
open Go.RowKit
set_option linter.unusedVariables false
set_option linter.unusedSimpArgs false

theorem same_any (a e b f : Int) (w : World) :
    Calls Try.prog 14 #[.int .i64 a, .int .i64 e, .int .i64 b, .int .i64 f] w fun r w' => r = .returned (.bool (a == b && e == f)) ∧ w = w' := by
  by_cases h1 : a = b
  · subst h1
    by_cases h2 : e = f
    · subst h2
      have hb : (a == a) = true := by simp
      go_enter Try.func14, Try.ntmps14
      go_wp2
      go_ret
      exact ⟨by simp, rfl⟩
    · have h2b : (e == f) = false := by simpa using h2
      go_enter Try.func14, Try.ntmps14
      go_wp2
      go_ret
      exact ⟨by simp [h2b], rfl⟩
  · have h1b : (a == b) = false := by simpa using h1
    go_enter Try.func14, Try.ntmps14
    go_wp2
    go_ret
    exact ⟨by simp [h1b], rfl⟩

set_option maxHeartbeats 800000 in
theorem live_any (w : World) : Calls Try.prog 13 #[] w fun r w' => r = .returned (.bool true) ∧ Below w.heap.size w w' := by
  have e1 : mdN (-7) 10 3 false = -24 := by decide +kernel
  have e2 : mdE (-7) 10 3 false = 0 := by decide +kernel
  have e3 : mdN 4611686018427387904 4 8 true = 2305843009213693952 := by decide +kernel
  have e4 : mdE 4611686018427387904 4 8 true = 0 := by decide +kernel
  have e5 : fitE (4611686018427387904 + 4611686018427387904) = 8 := by decide +kernel
  have e6 : keepSum [4611686018427387904, 4611686018427387904] = 9223372036854775807 := by decide +kernel
  have e7 : fitN (4611686018427387904 + 4611686018427387904) = 0 := by decide +kernel
  have E6 := Lib.hid e6
  clear e6
  go_enter Try.func13, Try.ntmps13
  go_wp2_with (fail)
  refine (muldiv_any (-7) 10 3 false _ (by decide) (by decide) (by decide) (by decide) (by decide) (by decide)).mono ?_
  rintro e w1 ⟨rfl, hb1⟩
  rw [e1, e2]
  go_wp2_with (fail)
  refine (muldiv_any 4611686018427387904 4 8 true _ (by decide) (by decide) (by decide) (by decide) (by decide) (by decide)).mono ?_
  rintro e w2 ⟨rfl, hb2⟩
  rw [e3, e4]
  go_wp2_with (fail)
  refine (add_any 4611686018427387904 4611686018427387904 _ (by decide) (by decide) (by decide) (by decide)).mono ?_
  rintro e w3 ⟨rfl, rfl⟩
  rw [e5, e7]
  clear e1 e2 e3 e4 e5 e7
  go_wp2_with (fail)
  refine (plusl_any _ 2 2 [4611686018427387904, 4611686018427387904] _ (by intro x hx; simp at hx; subst hx; omega) rfl (by omega) (Or.inr ⟨_, 0, rfl, by simp, fun j hj => by
    have : j = 0 ∨ j = 1 := by simp at hj; omega
    rcases this with rfl | rfl <;> simp [go_sem]⟩)).mono ?_
  rintro e w4 ⟨rfl, rfl⟩
  rw [E6.out]
  go_wp2_with (fail)
  go_ret
  exact ⟨rfl, ((hb1.trans (hb2.mono hb1.size)).alloc (Nat.le_trans hb1.size hb2.size) _)⟩
end Go.Proofs.Ytdglclgjiilfkaa
