/- sketch: nil ones; what must be whatever is asked. -/
import Derived.Test.YtglielpiojnnhaaSkI
namespace Go.Proofs.Ytglielpiojnnhaa
open Go.RowKit
set_option linter.unusedVariables false
set_option linter.unusedSimpArgs false

set_option maxHeartbeats 400000 in
theorem skEstimate_nil (at_ : Int) (key : ByteArray) (w : World) : Calls Try.prog 10 #[.pointer none, .int .i64 at_, .string key] w fun e w' => e = .returned (.tuple #[.int .i64 0, .int .i64 1]) ∧ w' = w := by
  go_enter Try.func10, Try.ntmps10
  go_wp2_with (fail)
  refine (sklook_nil _ _).mono ?_
  rintro e wq ⟨rfl, hq⟩
  subst hq
  go_wp2_with (fail)
  go_ret2
  exact ⟨rfl, rfl⟩
set_option maxHeartbeats 400000 in
theorem skAdd_nil (at_ : Int) (key : ByteArray) (v : Value) (w : World) : Calls Try.prog 8 #[.pointer none, .int .i64 at_, .string key, v] w fun e w' => e = .returned (.int .i64 1) ∧ Below w.heap.size w w' := by
  go_enter Try.func8, Try.ntmps8
  go_wp2_with (fail)
  refine (sklook_nil _ _).mono ?_
  rintro e wq ⟨rfl, hq⟩
  subst hq
  go_wp2_with (fail)
  go_ret
  exact ⟨rfl, (Below.refl _ _).alloc (Nat.le_refl _) _⟩
def liveH : ShapeS := ⟨1000000, 10, 2, 64, 1⟩
def liveK : ByteArray := ⟨#[97]⟩
theorem liveOk : ShapeOk liveH 100000 := ⟨by decide, by decide, by decide, by decide, by decide, by decide, by decide, by decide, by decide, by decide, by decide, by decide⟩
def liveX : BkA := addBk 2 (colS liveH) liveK [1, 2] ⟨0, 0, fun _ _ => 0⟩
theorem liveX_cnt (r : Nat) (h : r < 2) : liveX.cnt r (colS liveH r liveK) = 3 := by
  unfold liveX addBk
  dsimp only
  rw [if_pos ⟨⟨by omega, by omega⟩, rfl⟩]
  rfl
theorem live1 : estS liveH 100000 999999 liveK [liveX] = 3 := by
  have h0 := liveX_cnt 0 (by omega)
  have h1 := liveX_cnt 1 (by omega)
  unfold estS
  show leastS _ 2 = 3
  rw [leastS, leastS, leastS]
  rw [sumB, sumB, sumB, sumB, if_pos (by show (_ : Int) < 0; decide), if_pos (by show (_ : Int) < 0; decide), h0, h1]
  decide
theorem live2 : estS liveH 100000 1000000 liveK [liveX] = 0 := by
  unfold estS
  show leastS _ 2 = 0
  rw [leastS, leastS, leastS]
  rw [sumB, sumB, sumB, sumB, if_neg (by show ¬ (_ : Int) < 0; decide), if_neg (by show ¬ (_ : Int) < 0; decide)]
  decide
theorem live3 : totS liveH 100000 5 [liveX] = 3 := by
  unfold totS
  rw [sumB, sumB, if_pos (by show (_ : Int) < 0; decide)]
  rfl
theorem live4 : hashS liveK = 12638187200555641996 := by decide +kernel
theorem live5 : newE liveH = 0 := by decide

end Go.Proofs.Ytglielpiojnnhaa
