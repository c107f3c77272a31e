/- the reference's sketch: New. -/
import Derived.Test.YtogdnacambjhpaaRsD
namespace Go.Proofs.Ytogdnacambjhpaa
open Go.RowKit
set_option linter.unusedVariables false
set_option linter.unusedSimpArgs false

def r6Obj (h : ShapeS) : Obj := .cells #[.int .i64 h.W, .int .i64 h.B, .int .i64 h.R, .int .i64 h.C, .int .u64 h.seed, .slice none 0 0, .int .i64 0] 57
theorem r6_made (w : World) (h : ShapeS) : R6At (w.alloc (r6Obj h)) w.heap.size h 0 (.slice none 0 0) [] :=
  ⟨new_blockS w _, World.ownsRow_nil _ _ _ _, by simp [Value.ownBlock], by simp, Int.le_refl _, by omega, by simp⟩
set_option maxHeartbeats 3200000 in
theorem r6new_any (h : ShapeS) (w : World) : Calls Try.prog 17 #[.int .i64 h.W, .int .i64 h.B, .int .i64 h.R, .int .i64 h.C, .int .u64 h.seed] w fun e w' =>
    (newE h ≠ 0 → e = .returned (.tuple #[.pointer none, .int .i64 (newE h)]) ∧ w' = w) ∧ (newE h = 0 → e = .returned (.tuple #[.pointer (some ⟨w.heap.size, 0, none⟩), .int .i64 0]) ∧ w' = w.alloc (r6Obj h)) := by
  obtain ⟨W, B, R, C, seed⟩ := h
  unfold newE r6Obj
  dsimp only
  by_cases hs : (1 ≤ W ∧ W ≤ 1099511627776) ∧ (1 ≤ B ∧ B ≤ 60) ∧ (1 ≤ R ∧ R ≤ 8) ∧ (1 ≤ C ∧ C ≤ 4096)
  · have hb : shapeB ⟨W, B, R, C, seed⟩ = true := by
      simp only [shapeB, Bool.and_eq_true, inB_iff]; exact hs
    rw [if_pos hb]
    obtain ⟨⟨w1, w2⟩, ⟨b1, b2⟩, ⟨r1, r2⟩, ⟨c1, c2⟩⟩ := hs
    have hne : (B == 0) = false := by rw [beq_eq_false_iff_ne]; omega
    have et : W.tmod B = W % B := Int.tmod_eq_emod_of_nonneg (by omega)
    have em0 : 0 ≤ W % B := Int.emod_nonneg _ (by omega)
    have em1 : W % B < B := Int.emod_lt_of_pos _ (by omega)
    obtain ⟨M, hM⟩ : ∃ M, W % B = M := ⟨_, rfl⟩
    rw [hM] at et em0 em1 ⊢
    have e1 : IntKind.i64.wrap M = M := IntWalk.i64_in _ (by omega)
    clear hb hM
    by_cases hz : M = 0
    · subst hz
      rw [if_pos rfl]
      go_enter Try.func17, Try.ntmps17
      go_wp2_with (fail)
      go_ret2
      exact ⟨fun h => absurd rfl h, fun _ => ⟨rfl, rfl⟩⟩
    · rw [if_neg hz]
      have hnz : (M != 0) = true := by simpa using hz
      go_enter Try.func17, Try.ntmps17
      go_wp2_with (fail)
      go_ret2
      exact ⟨fun _ => ⟨rfl, rfl⟩, fun h => absurd h (by decide)⟩
  · have hb : ¬ shapeB ⟨W, B, R, C, seed⟩ = true := by
      simp only [shapeB, Bool.and_eq_true, inB_iff]; exact hs
    rw [if_neg hb]
    clear hb
    go_enter Try.func17, Try.ntmps17
    go_wp2_with (fail)
    all_goals first
      | (exfalso; omega)
      | (go_ret2; first | exact ⟨rfl, rfl⟩ | rfl | exact ⟨fun _ => ⟨rfl, rfl⟩, fun h => absurd h (by decide)⟩)
end Go.Proofs.Ytogdnacambjhpaa
