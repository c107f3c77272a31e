/- The layer num: a number of 128 bits by a number, rounded: 'by'. -/
import Derived.Test.YteghiappanpogaaNumWide
import Derived.Test.YteghiappanpogaaBits
namespace Go.Proofs.Yteghiappanpogaa
open Go.RowKit
set_option linter.unusedVariables false
set_option linter.unusedSimpArgs false

/-- A quotient rounded, in sizes: c's own size d, the quotient and what is left of the sizes. -/
theorem rnd_pos (M d : Int) (hM : 0 ≤ M) (hd : 0 < d) (b up : Bool) :
    rnd (sgn b M) d up = sgn b (M / d + if M % d ≠ 0 ∧ b ≠ up then 1 else 0) := by
  have m0 := Int.mul_ediv_add_emod M d
  have m1 := Int.emod_nonneg M (show d ≠ 0 by omega)
  have m2 := Int.emod_lt_of_pos M hd
  have hneg : (-M) / d = -(M / d) - if M % d ≠ 0 then 1 else 0 := by
    by_cases h : M % d = 0
    · simp only [h, ne_eq, not_true_eq_false, if_false]
      rw [Int.neg_ediv_of_dvd (Int.dvd_of_emod_eq_zero h)]; omega
    · rw [if_pos h, Int.neg_ediv, if_neg (fun hh => h (Int.emod_eq_zero_of_dvd hh)), Int.sign_eq_one_of_pos hd]
  have f1 : M.fdiv d = M / d := Int.fdiv_eq_ediv_of_nonneg _ (by omega)
  have f2 : (-M).fdiv d = (-M) / d := Int.fdiv_eq_ediv_of_nonneg _ (by omega)
  cases b <;> cases up <;> simp only [rnd, sgn, f1, f2, hneg, Int.neg_neg] <;> by_cases h : M % d = 0 <;> simp [h] <;> omega

theorem rnd_by (M c : Int) (hM : 0 ≤ M) (hc : c ≠ 0) (b up : Bool) :
    rnd (sgn b M) c up = sgn (b != decide (c < 0)) (M / (c.natAbs : Int) + if M % (c.natAbs : Int) ≠ 0 ∧ (b != decide (c < 0)) ≠ up then 1 else 0) := by
  by_cases h : c < 0
  · have e : rnd (sgn b M) c up = rnd (sgn (!b) M) (-c) up := by
      have k1 : (sgn b M) = -(sgn (!b) M) := by cases b <;> simp [sgn]
      have k2 : c = -(-c) := by omega
      unfold rnd
      rw [k1, Int.neg_neg]
      conv => lhs; rw [k2]
      rw [Int.neg_fdiv_neg]
      have : (sgn (!b) M).fdiv (- -c) = (-(sgn (!b) M)).fdiv (-c) := by rw [← Int.neg_fdiv_neg, Int.neg_neg]
      rw [this]
    have hn : (c.natAbs : Int) = -c := by omega
    rw [e, rnd_pos M (-c) hM (by omega), hn]
    simp [h]
  · have hn : (c.natAbs : Int) = c := by omega
    rw [rnd_pos M c hM (by omega), hn]
    simp [h]

/-- The words of a quotient. -/
theorem quo_words (hi lo d : Int) (h0 : 0 ≤ hi) (l0 : 0 ≤ lo) (hd : 0 < d) :
    (hi * 18446744073709551616 + lo) / d = hi / d * 18446744073709551616 + (hi % d * 18446744073709551616 + lo) / d ∧ (hi * 18446744073709551616 + lo) % d = (hi % d * 18446744073709551616 + lo) % d := by
  have m0 := Int.mul_ediv_add_emod hi d
  have e : hi * 18446744073709551616 + lo = (hi % d * 18446744073709551616 + lo) + d * (hi / d * 18446744073709551616) := by
    have : d * (hi / d * 18446744073709551616) = d * (hi / d) * 18446744073709551616 := by rw [Int.mul_assoc]
    rw [this]; omega
  constructor
  · rw [e, Int.add_mul_ediv_left _ _ (by omega)]; omega
  · rw [e, Int.add_mul_emod_self_left]

theorem by_up {q up : Bool} {S G Q R : Int} (t : (!(!q) == up) = true) (s : S ≠ 0) (r : R = sgn (!q) (G * 18446744073709551616 + Q + if S ≠ 0 ∧ (!q) ≠ up then 1 else 0)) : R = sgn (!q) (G * 18446744073709551616 + Q + 1) := by
  subst r; cases q <;> cases up <;> simp_all
theorem by_down {q up : Bool} {S G Q R : Int} (t : (!(!q) == up) = false) (r : R = sgn (!q) (G * 18446744073709551616 + Q + if S ≠ 0 ∧ (!q) ≠ up then 1 else 0)) : R = sgn (!q) (G * 18446744073709551616 + Q) := by
  subst r; cases q <;> cases up <;> simp_all
theorem by_even {q up : Bool} {S G Q R : Int} (s : S = 0) (r : R = sgn (!q) (G * 18446744073709551616 + Q + if S ≠ 0 ∧ (!q) ≠ up then 1 else 0)) : R = sgn (!q) (G * 18446744073709551616 + Q) := by
  subst r; simp [s]

set_option maxRecDepth 100000 in
set_option maxHeartbeats 4000000 in
theorem by_any (hi lo c : Int) (b up : Bool) (w : World) (h0 : 0 ≤ hi) (h1 : hi < 18446744073709551616) (l0 : 0 ≤ lo) (l1 : lo < 18446744073709551616) (c0 : -9223372036854775808 ≤ c) (c1 : c ≤ 9223372036854775807) (cz : c ≠ 0) :
    Calls Try.prog 54 #[.agg #[.int .u64 hi, .int .u64 lo, .bool b], .int .i64 c, .bool up] w fun e w' => e = .returned (.tuple #[.int .i64 (fitN (rnd (sgn b (hi * 18446744073709551616 + lo)) c up)), .bool (fitB (rnd (sgn b (hi * 18446744073709551616 + lo)) c up))]) ∧ Below w.heap.size w w' := by
  have hr := rnd_by (hi * 18446744073709551616 + lo) c (by omega) cz b up
  obtain ⟨R, hR⟩ : ∃ R : Int, rnd (sgn b (hi * 18446744073709551616 + lo)) c up = R := ⟨_, rfl⟩
  rw [hR] at hr
  rw [hR]
  obtain ⟨D, hD⟩ : ∃ D : Int, (c.natAbs : Int) = D := ⟨_, rfl⟩
  have d0 : 0 < D := by omega
  have d1 : D ≤ 9223372036854775808 := by omega
  have hq := quo_words hi lo D h0 l0 d0
  rw [hD, hq.1, hq.2] at hr
  have hdv := fun w => div64_any (hi % D) lo D w (Int.emod_nonneg _ (by omega)) (Int.emod_lt_of_pos _ d0) l0 l1 (by omega)
  have q0 : 0 ≤ (hi % D * 18446744073709551616 + lo) / D := by
    have := Int.emod_nonneg hi (show D ≠ 0 by omega)
    exact Int.ediv_nonneg (by omega) (by omega)
  have q1 : (hi % D * 18446744073709551616 + lo) / D < 18446744073709551616 := by
    have := Int.emod_lt_of_pos hi d0
    have k : 18446744073709551616 * (hi % D + 1) ≤ 18446744073709551616 * D := Int.mul_le_mul_of_nonneg_left (by omega) (by decide)
    exact Int.ediv_lt_of_lt_mul d0 (by omega)
  have r0 : 0 ≤ (hi % D * 18446744073709551616 + lo) % D := Int.emod_nonneg _ (by omega)
  have r1 : (hi % D * 18446744073709551616 + lo) % D < D := Int.emod_lt_of_pos _ d0
  have g0 : 0 ≤ hi / D := Int.ediv_nonneg h0 (by omega)
  have g1 : hi / D ≤ hi := Int.ediv_le_self _ h0
  have g2 : (hi % D * 18446744073709551616 + lo) % D ≠ 0 → hi / D < 9223372036854775808 := by
    intro h
    have : 2 ≤ D := by
      apply Classical.byContradiction; intro hn
      have : D = 1 := by omega
      subst this; simp at h
    have k : D * (hi / D) ≤ hi := Int.mul_ediv_self_le (by omega)
    have k2 : 2 * (hi / D) ≤ D * (hi / D) := Int.mul_le_mul_of_nonneg_right this g0
    omega
  obtain ⟨Q, hQ⟩ : ∃ Q : Int, (hi % D * 18446744073709551616 + lo) / D = Q := ⟨_, rfl⟩
  obtain ⟨S, hS⟩ : ∃ S : Int, (hi % D * 18446744073709551616 + lo) % D = S := ⟨_, rfl⟩
  obtain ⟨G, hG⟩ : ∃ G : Int, hi / D = G := ⟨_, rfl⟩
  obtain ⟨A, hA⟩ : ∃ A : Int, hi % D = A := ⟨_, rfl⟩
  simp only [hQ, hS] at hr hdv q0 q1 r0 r1 g2
  simp only [hG] at hr g0 g1 g2
  rw [hA] at hdv
  have Hd := Lib.hid hdv
  have Hr := Lib.hid hr
  have hA1 : hi.tmod D = A := by rw [IntWalk.rem_in _ _ h0]; exact hA
  have hG1 : hi.tdiv D = G := by rw [Int.tdiv_eq_ediv_of_nonneg h0]; exact hG
  have A0 : 0 ≤ A := by rw [← hA]; exact Int.emod_nonneg _ (by omega)
  have A1 : A < D := by rw [← hA]; exact Int.emod_lt_of_pos _ (by omega)
  have hA2 : IntKind.u64.wrap A = A := IntWalk.u64_in _ (by omega)
  have hG2 : IntKind.u64.wrap G = G := IntWalk.u64_in _ (by omega)
  clear hr hdv hq hQ hS hR
  have ha : ∃ x y : Int, (∀ w, (callFunc 59 #[.int .u64 Q, .int .u64 1, .int .u64 0]).run Try.prog w = .ok (.value (.tuple #[.int .u64 x, .int .u64 y])) w) ∧ 0 ≤ x ∧ x < 18446744073709551616 ∧ 0 ≤ y ∧ y ≤ 1 ∧ y * 18446744073709551616 + x = Q + 1 := by
    refine ⟨(Q + 1) % 18446744073709551616, (Q + 1) / 18446744073709551616, fun w => ?_, by omega, by omega, by omega, by omega, by omega⟩
    simpa using add64 Q 1 0 q0 (by decide) (by decide) (by decide) w
  obtain ⟨x, y, ha, x0, x1, y0, y1, hxy⟩ := ha
  have Hxy := Lib.hid hxy
  clear hxy
  obtain ⟨q, hq⟩ : ∃ q : Bool, (b == decide (c < 0)) = q := ⟨_, rfl⟩
  have hr := Hr.out
  have hbq : (b != decide (c < 0)) = !q := by rw [← hq]; rfl
  rw [hbq] at hr
  clear Hr hbq
  by_cases sz : S = 0
  · have sz' : (S != 0) = false := by simpa using sz
    have Hr := Lib.hid (by_even sz hr)
    clear g2 hr sz
    go_enter Try.func54, Try.ntmps54
    go_wp2_with (first | (go_at_call 56; refine (size_any _ _ (by omega) (by omega)).mono ?_; rintro e w' ⟨rfl, rfl⟩))
    go_quiet ((go_at_call 58; exact Calls.quiet_of (Hd.out _)))
    go_wp2_with (fail)
    go_region
    go_wp2_with (go_at_call 49; refine (narrow_any _ _ _ _ (by omega) (by omega) (by omega) (by omega)).mono ?_; rintro e w' ⟨rfl, hb⟩)
    all_goals
      clear hD hG hA hA1 hG1 hA2 hG2 hq
      go_ret2
      refine ⟨ret_ib (congrArg fitN ?_) (congrArg fitB ?_), Below.trans (by repeat (first | exact Below.refl _ _ | apply below_drewN | apply Below.drew | apply Below.alloc | apply Below.setCell | simp | omega)) (hb.mono (by simp; omega))⟩
      all_goals
        have h1 := Hr.out
        first | (rw [h1]; done) | (rw [h1]; cases q <;> simp [sgn] <;> omega)
  · have sz' : (S != 0) = true := by simpa using sz
    have g3 := g2 sz
    have Hr := Lib.hid hr
    clear g2 hr
    go_enter Try.func54, Try.ntmps54
    go_wp2_with (first | (go_at_call 56; refine (size_any _ _ (by omega) (by omega)).mono ?_; rintro e w' ⟨rfl, rfl⟩))
    go_quiet ((go_at_call 58; exact Calls.quiet_of (Hd.out _)))
    go_wp2_with (fail)
    go_region
    go_wp2_with (go_at_call 49; refine (narrow_any _ _ _ _ (by omega) (by omega) (by omega) (by omega)).mono ?_; rintro e w' ⟨rfl, hb⟩)
    all_goals
      clear hD hG hA hA1 hG1 hA2 hG2 hq
      go_ret2
      refine ⟨ret_ib (congrArg fitN ?_) (congrArg fitB ?_), Below.trans (by repeat (first | exact Below.refl _ _ | apply below_drewN | apply Below.drew | apply Below.alloc | apply Below.setCell | simp | omega)) (hb.mono (by simp; omega))⟩
      all_goals
        have h2 := Hxy.out
        first
          | have h1 := by_up (by assumption) sz Hr.out
            first | (rw [h1]; done) | (rw [h1]; cases q <;> simp [sgn] <;> omega)
          | have h1 := by_down (by assumption) Hr.out
            first | (rw [h1]; done) | (rw [h1]; cases q <;> simp [sgn] <;> omega)

end Go.Proofs.Yteghiappanpogaa
