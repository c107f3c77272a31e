/- The reference of the layer num (spillwayref01): kept, product, by: what each call returns; nothing that was there turns. -/
import Derived.Test.YtnobfmlfhaaghaaRefA
import Derived.Deep.RegionWith
namespace Go.Proofs.Ytnobfmlfhaaghaa
open Go.RowKit
set_option linter.unusedVariables false
set_option linter.unusedSimpArgs false

set_option maxHeartbeats 1600000 in
theorem rproduct_any (a b : Int) (w : World) (a0 : -9223372036854775808 ≤ a) (a1 : a ≤ 9223372036854775807) (b0 : -9223372036854775808 ≤ b) (b1 : b ≤ 9223372036854775807) :
    Calls Try.prog 74 #[.int .i64 a, .int .i64 b] w (RefW (a * b) w) := by
  have hM := prod_bound a b a0 a1 b0 b1
  have hc := Try.bits_Mul64 a.natAbs b.natAbs (by omega) (by omega)
  have hmul : ((a * b).natAbs : Int) = ((a.natAbs * b.natAbs : Nat) : Int) := by rw [Int.natAbs_mul]
  obtain ⟨M, hMe⟩ : ∃ M : Nat, a.natAbs * b.natAbs = M := ⟨_, rfl⟩
  rw [hMe] at hM hc hmul
  obtain ⟨H, hH⟩ : ∃ H : Nat, M / 18446744073709551616 = H := ⟨_, rfl⟩
  obtain ⟨L, hL⟩ : ∃ L : Nat, M % 18446744073709551616 = L := ⟨_, rfl⟩
  have hHL : M = H * 18446744073709551616 + L := by omega
  simp only [hH, hL] at hc
  have Hc := Lib.hid hc
  have hab : a * b < 0 ↔ ((a < 0 ∧ 0 < b) ∨ (0 < a ∧ b < 0)) := by
    constructor
    · intro h
      rcases Int.lt_trichotomy a 0 with h1 | h1 | h1 <;> rcases Int.lt_trichotomy b 0 with h2 | h2 | h2
      · have := Int.mul_pos_of_neg_of_neg h1 h2; omega
      · subst h2; simp at h
      · exact Or.inl ⟨h1, h2⟩
      · subst h1; simp at h
      · subst h1; simp at h
      · subst h1; simp at h
      · exact Or.inr ⟨h1, h2⟩
      · subst h2; simp at h
      · have := Int.mul_pos h1 h2; omega
    · rintro (⟨h1, h2⟩ | ⟨h1, h2⟩)
      · exact Int.mul_neg_of_neg_of_pos h1 h2
      · exact Int.mul_neg_of_pos_of_neg h1 h2
  have hab0 : a * b = 0 ↔ (a = 0 ∨ b = 0) := Int.mul_eq_zero
  have hsg : ∀ x : Bool, (x = decide (a * b < 0) ∨ a * b = 0) → sgn x (M : Int) = a * b := by
    intro x hx
    rcases hx with hx | hx
    · subst hx
      unfold sgn
      by_cases h : a * b < 0
      · simp [h]; omega
      · simp [h]; omega
    · have : (M : Int) = 0 := by omega
      rw [this, hx]; cases x <;> rfl
  have fin : ∀ (w' : World) (x : Bool), (x = decide (a * b < 0) ∨ a * b = 0) → Below w.heap.size w w' → RefW (a * b) w (.returned (.agg #[.bool x, .int .u64 H, .int .u64 L])) w' := by
    intro w' x hx hb
    refine ⟨x, H, L, rfl, by omega, by omega, by omega, by omega, ?_, hb⟩
    have : ((H : Int) * 18446744073709551616 + (L : Int)) = (M : Int) := by omega
    rw [this]; exact hsg x hx
  have sides : (a < 0 ∧ b < 0 ∧ ¬ a * b < 0) ∨ (a < 0 ∧ ¬ b < 0 ∧ a * b < 0 ∧ (0 < (H : Int) ∨ (H : Int) = 0 ∧ 0 < (L : Int))) ∨ (a < 0 ∧ ¬ b < 0 ∧ a * b = 0 ∧ (H : Int) = 0 ∧ (L : Int) = 0) ∨ (¬ a < 0 ∧ b < 0 ∧ a * b < 0 ∧ (0 < (H : Int) ∨ (H : Int) = 0 ∧ 0 < (L : Int))) ∨ (¬ a < 0 ∧ b < 0 ∧ a * b = 0 ∧ (H : Int) = 0 ∧ (L : Int) = 0) ∨ (¬ a < 0 ∧ ¬ b < 0 ∧ ¬ a * b < 0) := by
    by_cases p : a * b = 0
    · have := hab0.1 p
      have hz : H = 0 ∧ L = 0 := by omega
      by_cases h1 : a < 0 <;> by_cases h2 : b < 0 <;> simp [p, h1, h2, hz] <;> omega
    · have hn : ¬ (a = 0 ∨ b = 0) := fun h => p (hab0.2 h)
      have hz : 0 < (H : Int) ∨ (H : Int) = 0 ∧ 0 < (L : Int) := by omega
      by_cases h1 : a < 0 <;> by_cases h2 : b < 0 <;> simp [p, h1, h2, hab] <;> omega
  clear hH hL hmul hHL hsg hMe hab hab0 hc hM
  rcases sides with ⟨h1, h2, h3⟩ | ⟨h1, h2, h3, h4⟩ | ⟨h1, h2, h3, h4, h5⟩ | ⟨h1, h2, h3, h4⟩ | ⟨h1, h2, h3, h4, h5⟩ | ⟨h1, h2, h3⟩
  · have f := Lib.hid (fun w' => fin w' false (Or.inl (by simp [h3])))
    clear fin
    go_enter Try.func74, Try.ntmps74
    go_wp2_with (first | (go_at_call 81; refine (rsize_any _ _ (by omega) (by omega)).mono ?_; rintro e w' ⟨rfl, rfl⟩) | (go_at_call 71; refine (Hc.out _).mono ?_; rintro e w' ⟨rfl, rfl⟩))
    exact bodyPost_ret (v := .agg #[.bool false, .int .u64 H, .int .u64 L]) (by simp [results, Try.results74, go_sem] <;> omega) rfl (f.out _ (by repeat (first | exact Below.refl _ _ | apply Below.alloc | apply Below.setCell | omega | (focus (simp <;> omega)))))
  · have f := Lib.hid (fun w' => fin w' true (Or.inl (by simp [h3])))
    rcases h4 with h4 | ⟨h4, h5⟩
    · have h6 := h4
      clear fin
      go_enter Try.func74, Try.ntmps74
      go_wp2_with (first | (go_at_call 81; refine (rsize_any _ _ (by omega) (by omega)).mono ?_; rintro e w' ⟨rfl, rfl⟩) | (go_at_call 71; refine (Hc.out _).mono ?_; rintro e w' ⟨rfl, rfl⟩))
      exact bodyPost_ret (v := .agg #[.bool true, .int .u64 H, .int .u64 L]) (by simp [results, Try.results74, go_sem] <;> omega) rfl (f.out _ (by repeat (first | exact Below.refl _ _ | apply Below.alloc | apply Below.setCell | omega | (focus (simp <;> omega)))))
    · have h6 := h5
      clear fin
      go_enter Try.func74, Try.ntmps74
      go_wp2_with (first | (go_at_call 81; refine (rsize_any _ _ (by omega) (by omega)).mono ?_; rintro e w' ⟨rfl, rfl⟩) | (go_at_call 71; refine (Hc.out _).mono ?_; rintro e w' ⟨rfl, rfl⟩))
      exact bodyPost_ret (v := .agg #[.bool true, .int .u64 H, .int .u64 L]) (by simp [results, Try.results74, go_sem] <;> omega) rfl (f.out _ (by repeat (first | exact Below.refl _ _ | apply Below.alloc | apply Below.setCell | omega | (focus (simp <;> omega)))))
  · have f := Lib.hid (fun w' => fin w' false (Or.inr h3))
    clear fin
    go_enter Try.func74, Try.ntmps74
    go_wp2_with (first | (go_at_call 81; refine (rsize_any _ _ (by omega) (by omega)).mono ?_; rintro e w' ⟨rfl, rfl⟩) | (go_at_call 71; refine (Hc.out _).mono ?_; rintro e w' ⟨rfl, rfl⟩))
    exact bodyPost_ret (v := .agg #[.bool false, .int .u64 H, .int .u64 L]) (by simp [results, Try.results74, go_sem] <;> omega) rfl (f.out _ (by repeat (first | exact Below.refl _ _ | apply Below.alloc | apply Below.setCell | omega | (focus (simp <;> omega)))))
  · have f := Lib.hid (fun w' => fin w' true (Or.inl (by simp [h3])))
    rcases h4 with h4 | ⟨h4, h5⟩
    · have h6 := h4
      clear fin
      go_enter Try.func74, Try.ntmps74
      go_wp2_with (first | (go_at_call 81; refine (rsize_any _ _ (by omega) (by omega)).mono ?_; rintro e w' ⟨rfl, rfl⟩) | (go_at_call 71; refine (Hc.out _).mono ?_; rintro e w' ⟨rfl, rfl⟩))
      exact bodyPost_ret (v := .agg #[.bool true, .int .u64 H, .int .u64 L]) (by simp [results, Try.results74, go_sem] <;> omega) rfl (f.out _ (by repeat (first | exact Below.refl _ _ | apply Below.alloc | apply Below.setCell | omega | (focus (simp <;> omega)))))
    · have h6 := h5
      clear fin
      go_enter Try.func74, Try.ntmps74
      go_wp2_with (first | (go_at_call 81; refine (rsize_any _ _ (by omega) (by omega)).mono ?_; rintro e w' ⟨rfl, rfl⟩) | (go_at_call 71; refine (Hc.out _).mono ?_; rintro e w' ⟨rfl, rfl⟩))
      exact bodyPost_ret (v := .agg #[.bool true, .int .u64 H, .int .u64 L]) (by simp [results, Try.results74, go_sem] <;> omega) rfl (f.out _ (by repeat (first | exact Below.refl _ _ | apply Below.alloc | apply Below.setCell | omega | (focus (simp <;> omega)))))
  · have f := Lib.hid (fun w' => fin w' false (Or.inr h3))
    clear fin
    go_enter Try.func74, Try.ntmps74
    go_wp2_with (first | (go_at_call 81; refine (rsize_any _ _ (by omega) (by omega)).mono ?_; rintro e w' ⟨rfl, rfl⟩) | (go_at_call 71; refine (Hc.out _).mono ?_; rintro e w' ⟨rfl, rfl⟩))
    exact bodyPost_ret (v := .agg #[.bool false, .int .u64 H, .int .u64 L]) (by simp [results, Try.results74, go_sem] <;> omega) rfl (f.out _ (by repeat (first | exact Below.refl _ _ | apply Below.alloc | apply Below.setCell | omega | (focus (simp <;> omega)))))
  · have f := Lib.hid (fun w' => fin w' false (Or.inl (by simp [h3])))
    clear fin
    go_enter Try.func74, Try.ntmps74
    go_wp2_with (first | (go_at_call 81; refine (rsize_any _ _ (by omega) (by omega)).mono ?_; rintro e w' ⟨rfl, rfl⟩) | (go_at_call 71; refine (Hc.out _).mono ?_; rintro e w' ⟨rfl, rfl⟩))
    exact bodyPost_ret (v := .agg #[.bool false, .int .u64 H, .int .u64 L]) (by simp [results, Try.results74, go_sem] <;> omega) rfl (f.out _ (by repeat (first | exact Below.refl _ _ | apply Below.alloc | apply Below.setCell | omega | (focus (simp <;> omega)))))
end Go.Proofs.Ytnobfmlfhaaghaa
