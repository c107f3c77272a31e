/- NumWide, NumWithin, NumRounds: the walks. -/
import Derived.Test.YtdglclgjiilfkaaLawSums
namespace Go.Proofs.Ytdglclgjiilfkaa
open Go.RowKit
set_option linter.unusedVariables false
set_option linter.unusedSimpArgs false

set_option maxHeartbeats 1600000 in
theorem wide_walk (a : Int) (wa : (Lit.int .i64 a).wf = true) (b : Int) (wb : (Lit.int .i64 b).wf = true) (c : Int) (wc : (Lit.int .i64 c).wf = true) (w : World) :
    Calls Try.prog 5 #[.int .i64 a, .int .i64 b, .int .i64 c] w fun e w' => e = .returned (.bool true) ∧ Below w.heap.size w w' := by
  obtain ⟨a0, a1⟩ := wf64 wa
  obtain ⟨b0, b1⟩ := wf64 wb
  obtain ⟨c0, c1⟩ := wf64 wc
  clear wa wb wc
  go_enter Try.func5, Try.ntmps5
  go_wp2_with (fail)
  refine (muldiv_any a b c false _ a0 a1 b0 b1 c0 c1).mono ?_
  rintro e w1 ⟨rfl, hb1⟩
  go_wp2_with (fail)
  refine (rmuldiv_any a b c false _ a0 a1 b0 b1 c0 c1).mono ?_
  rintro e w2 ⟨rfl, hb2⟩
  go_wp2_with (fail)
  refine (live_any _).mono ?_
  rintro e w3 ⟨rfl, hb3⟩
  go_wp2_with (fail)
  refine (same_any _ _ _ _ _).mono ?_
  rintro e w4 ⟨rfl, rfl⟩
  simp only [beq_self_eq_true, Bool.and_self]
  go_wp2_with (fail)
  refine (muldiv_any a b c true _ a0 a1 b0 b1 c0 c1).mono ?_
  rintro e w5 ⟨rfl, hb5⟩
  go_wp2_with (fail)
  refine (rmuldiv_any a b c true _ a0 a1 b0 b1 c0 c1).mono ?_
  rintro e w6 ⟨rfl, hb6⟩
  go_wp2_with (fail)
  refine (same_any _ _ _ _ _).mono ?_
  rintro e w7 ⟨rfl, rfl⟩
  simp only [beq_self_eq_true, Bool.and_self]
  go_wp2_with (fail)
  refine (share_any a b _ a0 a1 b0 b1).mono ?_
  rintro e w8 ⟨rfl, hb8⟩
  go_wp2_with (fail)
  refine (rshare_any a b _ a0 a1 b0 b1).mono ?_
  rintro e w9 ⟨rfl, hb9⟩
  go_wp2_with (fail)
  refine (same_any _ _ _ _ _).mono ?_
  rintro e w10 ⟨rfl, rfl⟩
  simp only [beq_self_eq_true, Bool.and_self]
  go_wp2_with (fail)
  go_ret
  have B2 := hb1.trans (hb2.mono hb1.size)
  have B3 := B2.trans (hb3.mono B2.size)
  have B5 := B3.trans (hb5.mono B3.size)
  have B6 := B5.trans (hb6.mono B5.size)
  have B8 := B6.trans (hb8.mono B6.size)
  exact ⟨rfl, B8.trans (hb9.mono B8.size)⟩

set_option maxHeartbeats 1600000 in
theorem within_walk (n : Int) (wn : (Lit.int .i64 n).wf = true) (lo : Int) (wl : (Lit.int .i64 lo).wf = true) (hi : Int) (wh : (Lit.int .i64 hi).wf = true) (w : World) :
    Calls Try.prog 6 #[.int .i64 n, .int .i64 lo, .int .i64 hi] w fun e w' => e = .returned (.bool true) ∧ Below w.heap.size w w' := by
  obtain ⟨n0, n1⟩ := wf64 wn
  obtain ⟨l0, l1⟩ := wf64 wl
  obtain ⟨h0, h1⟩ := wf64 wh
  clear wn wl wh
  have hW := fun w => within_any n lo hi w
  have hR := fun w => rwithin_any n lo hi w
  generalize (if n < lo then lo else if hi < n then hi else n) = V at hW hR
  go_enter Try.func6, Try.ntmps6
  have HW := Lib.hid hW
  have HR := Lib.hid hR
  clear hW hR
  go_wp2_with (fail)
  refine (live_any _).mono ?_
  rintro e w1 ⟨rfl, hb1⟩
  go_wp2_with (fail)
  refine (HW.out _).mono ?_
  rintro e w2 ⟨rfl, rfl⟩
  go_wp2_with (fail)
  refine (HR.out _).mono ?_
  rintro e w3 ⟨rfl, rfl⟩
  go_wp2_with (fail)
  refine (times_any n lo _ n0 n1 l0 l1).mono ?_
  rintro e w4 ⟨rfl, hb4⟩
  go_wp2_with (fail)
  refine (rtimes_any n lo _ n0 n1 l0 l1).mono ?_
  rintro e w5 ⟨rfl, hb5⟩
  go_wp2_with (fail)
  go_ret
  have B4 := hb1.trans (hb4.mono hb1.size)
  exact ⟨rfl, B4.trans (hb5.mono B4.size)⟩

/-! ### the plain law of NumRounds -/
theorem rnd_down_up (v c : Int) (hc : c ≠ 0) : rnd v c false ≤ rnd v c true ∧ rnd v c true - rnd v c false ≤ 1 ∧ (rnd v c false = rnd v c true → rnd v c false * c = v) := by
  have key : ∀ (v d : Int), 0 < d → v.fdiv d ≤ -((-v).fdiv d) ∧ -((-v).fdiv d) - v.fdiv d ≤ 1 ∧ (v.fdiv d = -((-v).fdiv d) → v.fdiv d * d = v) := by
    intro v d hd
    rw [Int.fdiv_eq_ediv_of_nonneg _ (by omega), Int.fdiv_eq_ediv_of_nonneg _ (by omega)]
    have a1 := Int.mul_ediv_add_emod v d
    have a2 := Int.emod_nonneg v (show d ≠ 0 by omega)
    have a3 := Int.emod_lt_of_pos v hd
    have b1 := Int.mul_ediv_add_emod (-v) d
    have b2 := Int.emod_nonneg (-v) (show d ≠ 0 by omega)
    have b3 := Int.emod_lt_of_pos (-v) hd
    have e : d * (v / d) + d * ((-v) / d) = d * (v / d + (-v) / d) := (Int.mul_add _ _ _).symm
    have lt1 : d * (v / d + (-v) / d) < d * 1 := by omega
    have gt1 : d * (-2) < d * (v / d + (-v) / d) := by omega
    have l1 := Int.lt_of_mul_lt_mul_left lt1 (by omega)
    have l2 := Int.lt_of_mul_lt_mul_left gt1 (by omega)
    refine ⟨by omega, by omega, fun h => ?_⟩
    have z : v / d + (-v) / d = 0 := by omega
    rw [z] at e
    rw [Int.mul_comm]; omega
  by_cases h : 0 < c
  · have := key v c h
    simpa [rnd] using this
  · have k := key (-v) (-c) (by omega)
    rw [Int.neg_neg, Int.neg_fdiv_neg] at k
    have k2 : v.fdiv (-c) = (-v).fdiv c := by rw [← Int.neg_fdiv_neg, Int.neg_neg]
    rw [k2] at k
    refine ⟨by simpa [rnd] using k.1, by simpa [rnd] using k.2.1, fun h => ?_⟩
    have := k.2.2 (by simpa [rnd] using h)
    simp only [rnd, Bool.false_eq_true, if_false]
    have e : v.fdiv c * -c = -(v.fdiv c * c) := Int.mul_neg _ _
    omega
end Go.Proofs.Ytdglclgjiilfkaa
