/- The reference of the layer num (spillwayref01): by. -/
import Derived.Test.YtnobfmlfhaaghaaRefB
namespace Go.Proofs.Ytnobfmlfhaaghaa
open Go.RowKit
set_option linter.unusedVariables false
set_option linter.unusedSimpArgs false

/-- The sign that the reference gives a quotient. -/
def rT (q : Bool) (hi lo : Int) : Bool := (!q) && (decide (0 < hi) || decide (0 < lo))

theorem rT_zero {q : Bool} {hi lo d : Int} (h0 : 0 ≤ hi) (l0 : 0 ≤ lo) (m : Int) (up : Bool) :
    sgn (!q) ((hi * 18446744073709551616 + lo) / d + if (hi * 18446744073709551616 + lo) % d ≠ 0 ∧ (!q) ≠ up then 1 else 0) = sgn (rT q hi lo) ((hi * 18446744073709551616 + lo) / d + if (hi * 18446744073709551616 + lo) % d ≠ 0 ∧ (rT q hi lo) ≠ up then 1 else 0) := by
  by_cases h : hi = 0 ∧ lo = 0
  · obtain ⟨rfl, rfl⟩ := h
    cases q <;> simp [rT, sgn]
  · have : rT q hi lo = !q := by
      unfold rT
      have h2 : (decide (0 < hi) || decide (0 < lo)) = true := by simp; omega
      rw [h2]; simp
    rw [this]

theorem by_even' {T up : Bool} {S G Q R : Int} (s : S = 0) (r : R = sgn T (G * 18446744073709551616 + Q + if S ≠ 0 ∧ T ≠ up then 1 else 0)) : R = sgn T (G * 18446744073709551616 + Q) := by
  subst r; simp [s]
theorem by_same {T : Bool} {S G Q R : Int} (s : ¬ S = 0) (r : R = sgn T (G * 18446744073709551616 + Q + if S ≠ 0 ∧ T ≠ T then 1 else 0)) : R = sgn T (G * 18446744073709551616 + Q) := by
  subst r; simp
theorem by_more {T : Bool} {S G Q R : Int} (s : ¬ S = 0) (r : R = sgn T (G * 18446744073709551616 + Q + if S ≠ 0 ∧ T ≠ !T then 1 else 0)) : R = sgn T (G * 18446744073709551616 + Q) + sgn T 1 := by
  subst r; cases T <;> simp [s, sgn] <;> omega

set_option maxRecDepth 100000 in
set_option maxHeartbeats 4000000 in
theorem rby_any (b : Bool) (hi lo c : Int) (up : Bool) (w : World) (h0 : 0 ≤ hi) (h1 : hi < 9223372036854775808) (l0 : 0 ≤ lo) (l1 : lo < 18446744073709551616) (c0 : -9223372036854775808 ≤ c) (c1 : c ≤ 9223372036854775807) (cz : c ≠ 0) :
    Calls Try.prog 75 #[.agg #[.bool b, .int .u64 hi, .int .u64 lo], .int .i64 c, .bool up] w fun e w' => e = .returned (.tuple #[.int .i64 (fitN (rnd (sgn b (hi * 18446744073709551616 + lo)) c up)), .bool (fitB (rnd (sgn b (hi * 18446744073709551616 + lo)) c up))]) ∧ Below w.heap.size w w' := by
  have hr := rnd_by (hi * 18446744073709551616 + lo) c (by omega) cz b up
  obtain ⟨R, hR⟩ : ∃ R : Int, rnd (sgn b (hi * 18446744073709551616 + lo)) c up = R := ⟨_, rfl⟩
  rw [hR] at hr
  rw [hR]
  obtain ⟨q, hq⟩ : ∃ q : Bool, (b == decide (c < 0)) = q := ⟨_, rfl⟩
  have hbq : (b != decide (c < 0)) = !q := by rw [← hq]; rfl
  rw [hbq, rT_zero h0 l0 0 up] at hr
  obtain ⟨T, hT⟩ : ∃ T : Bool, rT q hi lo = T := ⟨_, rfl⟩
  rw [hT] at hr
  obtain ⟨D, hD⟩ : ∃ D : Int, (c.natAbs : Int) = D := ⟨_, rfl⟩
  have d0 : 0 < D := by omega
  have d1 : D ≤ 9223372036854775808 := by omega
  have hqw := quo_words hi lo D h0 l0 d0
  rw [hD, hqw.1, hqw.2] at hr
  have hdv := fun w => div64_any (hi % D) lo D w (Int.emod_nonneg _ (by omega)) (Int.emod_lt_of_pos _ d0) l0 l1 (by omega)
  have q0 : 0 ≤ (hi % D * 18446744073709551616 + lo) / D := by
    have := Int.emod_nonneg hi (show D ≠ 0 by omega)
    exact Int.ediv_nonneg (by omega) (by omega)
  have q1 : (hi % D * 18446744073709551616 + lo) / D < 18446744073709551616 := by
    have := Int.emod_lt_of_pos hi d0
    have k : 18446744073709551616 * (hi % D + 1) ≤ 18446744073709551616 * D := Int.mul_le_mul_of_nonneg_left (by omega) (by decide)
    exact Int.ediv_lt_of_lt_mul d0 (by omega)
  have r0 : 0 ≤ (hi % D * 18446744073709551616 + lo) % D := Int.emod_nonneg _ (by omega)
  have r1 : (hi % D * 18446744073709551616 + lo) % D < D := Int.emod_lt_of_pos _ d0
  have g0 : 0 ≤ hi / D := Int.ediv_nonneg h0 (by omega)
  have g1 : hi / D ≤ hi := Int.ediv_le_self _ h0
  obtain ⟨Q, hQ⟩ : ∃ Q : Int, (hi % D * 18446744073709551616 + lo) / D = Q := ⟨_, rfl⟩
  obtain ⟨S, hS⟩ : ∃ S : Int, (hi % D * 18446744073709551616 + lo) % D = S := ⟨_, rfl⟩
  obtain ⟨G, hG⟩ : ∃ G : Int, hi / D = G := ⟨_, rfl⟩
  obtain ⟨A, hA⟩ : ∃ A : Int, hi % D = A := ⟨_, rfl⟩
  simp only [hQ, hS] at hr hdv q0 q1 r0 r1
  simp only [hG] at hr g0 g1
  rw [hA] at hdv
  have Hd := Lib.hid hdv
  have hA1 : hi.tmod D = A := by rw [IntWalk.rem_in _ _ h0]; exact hA
  have hG1 : hi.tdiv D = G := by rw [Int.tdiv_eq_ediv_of_nonneg h0]; exact hG
  have A0 : 0 ≤ A := by rw [← hA]; exact Int.emod_nonneg _ (by omega)
  have A1 : A < D := by rw [← hA]; exact Int.emod_lt_of_pos _ (by omega)
  have hA2 : IntKind.u64.wrap A = A := IntWalk.u64_in _ (by omega)
  have hG2 : IntKind.u64.wrap G = G := IntWalk.u64_in _ (by omega)
  have HT := Lib.hid hT
  have Hr := Lib.hid hr
  clear hr hdv hqw hQ hS hR hT hbq
  go_enter Try.func75, Try.ntmps75
  go_upto_region 2 with (first | (go_at_call 81; refine (rsize_any _ _ (by omega) (by omega)).mono ?_; rintro e w' ⟨rfl, rfl⟩))
  go_cut [9] from 16 to 30 (fun s9 wx => s9 = .bool T ∧ wx = w.alloc (.cells #[.bool b, .int .u64 hi, .int .u64 lo] 115))
  case first =>
    go_wp2_with (fail)
    all_goals
      go_meet
      exact ⟨by rw [← HT.out]; simp_all [rT], rfl⟩
  case rest =>
    obtain ⟨rfl, rfl⟩ := hcut
    go_wp2_with (fail)
    go_quiet ((go_at_call 82; exact Calls.quiet_of (Hd.out _)))
    clear hq
    by_cases sz : S = 0
    · have HR := Lib.hid (by_even' sz Hr.out)
      have sz' : ¬ 0 < S := by omega
      clear sz
      go_wp2_with (go_at_call 85; refine (small_any _ _ _ _ (by omega) (by omega) (by omega) (by omega)).mono ?_; rintro e w' ⟨rfl, hb⟩)
      go_ret2
      exact ⟨ret_ib (by rw [HR.out]) (by rw [HR.out]), Below.trans (by repeat (first | exact Below.refl _ _ | apply below_drewN | apply Below.drew | apply Below.alloc | apply Below.setCell | omega | (focus (simp <;> omega)))) (hb.mono (by simp; omega))⟩
    · have sz' : 0 < S := by omega
      cases T <;> cases up
      · have HR := Lib.hid (by_same sz Hr.out)
        go_wp2_with (go_at_call 85; refine (small_any _ _ _ _ (by omega) (by omega) (by omega) (by omega)).mono ?_; rintro e w' ⟨rfl, hb⟩)
        go_ret2
        exact ⟨ret_ib (by rw [HR.out]) (by rw [HR.out]), Below.trans (by repeat (first | exact Below.refl _ _ | apply below_drewN | apply Below.drew | apply Below.alloc | apply Below.setCell | omega | (focus (simp <;> omega)))) (hb.mono (by simp; omega))⟩
      · have HR := Lib.hid (by_more sz Hr.out)
        go_wp2_with (fail)
        go_region_with (first | (go_at_call 84; refine (of_any _ _ (by decide) (by decide)).mono ?_; rintro e w1 ⟨rfl, hb1⟩; obtain ⟨hc1, hf1⟩ := bcell hb1; have hz1 := hb1.size; simp at hz1; have hz1a : w.heap.size < w1.heap.size := (by omega); have hz1b : w.heap.size + 1 < w1.heap.size := (by omega); clear hz1) | (go_at_call 83; refine (plus_any _ _ _ _ _ _ _ (by omega) (by omega) (by omega) (by omega) (by omega) (by omega) (by omega) (by omega) (by omega)).mono ?_; rintro e w2 ⟨b2, h2, k2, rfl, x0, x1, y0, y1, hv, hb2⟩; have Hv := Lib.hid hv; clear hv; obtain ⟨hc2, hf2⟩ := bcell hb2; have hz2 := hb2.size; have hz2a : w.heap.size < w2.heap.size := (by omega); have hz2b : w.heap.size + 1 < w2.heap.size := (by omega); clear hz2))
        all_goals
          have B1 : Below w.heap.size w w1 := Below.trans (by repeat (first | exact Below.refl _ _ | apply below_drewN | apply Below.drew | apply Below.alloc | apply Below.setCell | omega | (focus (simp <;> omega)))) (hb1.mono (by simp; omega))
          have B2 : Below w.heap.size w w2 := B1.trans (hb2.mono B1.size)
          have HR' := Lib.hid (show sgn b2 (h2 * 18446744073709551616 + k2) = R by rw [Hv.out, HR.out]; simp)
          go_wp2_with (go_at_call 85; refine (small_any _ _ _ _ (by omega) (by omega) (by omega) (by omega)).mono ?_; rintro e w' ⟨rfl, hb⟩)
          go_ret2
          exact ⟨ret_ib (by rw [HR'.out]) (by rw [HR'.out]), Below.trans (((B2.setCell (by simp) _).setCell (by simp) _).setCell (by simp) _) (hb.mono (by simp; omega))⟩
      · have HR := Lib.hid (by_more sz Hr.out)
        go_wp2_with (fail)
        go_region_with (first | (go_at_call 84; refine (of_any _ _ (by decide) (by decide)).mono ?_; rintro e w1 ⟨rfl, hb1⟩; obtain ⟨hc1, hf1⟩ := bcell hb1; have hz1 := hb1.size; simp at hz1; have hz1a : w.heap.size < w1.heap.size := (by omega); have hz1b : w.heap.size + 1 < w1.heap.size := (by omega); clear hz1) | (go_at_call 83; refine (plus_any _ _ _ _ _ _ _ (by omega) (by omega) (by omega) (by omega) (by omega) (by omega) (by omega) (by omega) (by omega)).mono ?_; rintro e w2 ⟨b2, h2, k2, rfl, x0, x1, y0, y1, hv, hb2⟩; have Hv := Lib.hid hv; clear hv; obtain ⟨hc2, hf2⟩ := bcell hb2; have hz2 := hb2.size; have hz2a : w.heap.size < w2.heap.size := (by omega); have hz2b : w.heap.size + 1 < w2.heap.size := (by omega); clear hz2))
        all_goals
          have B1 : Below w.heap.size w w1 := Below.trans (by repeat (first | exact Below.refl _ _ | apply below_drewN | apply Below.drew | apply Below.alloc | apply Below.setCell | omega | (focus (simp <;> omega)))) (hb1.mono (by simp; omega))
          have B2 : Below w.heap.size w w2 := B1.trans (hb2.mono B1.size)
          have HR' := Lib.hid (show sgn b2 (h2 * 18446744073709551616 + k2) = R by rw [Hv.out, HR.out]; simp)
          go_wp2_with (go_at_call 85; refine (small_any _ _ _ _ (by omega) (by omega) (by omega) (by omega)).mono ?_; rintro e w' ⟨rfl, hb⟩)
          go_ret2
          exact ⟨ret_ib (by rw [HR'.out]) (by rw [HR'.out]), Below.trans (((B2.setCell (by simp) _).setCell (by simp) _).setCell (by simp) _) (hb.mono (by simp; omega))⟩
      · have HR := Lib.hid (by_same sz Hr.out)
        go_wp2_with (go_at_call 85; refine (small_any _ _ _ _ (by omega) (by omega) (by omega) (by omega)).mono ?_; rintro e w' ⟨rfl, hb⟩)
        go_ret2
        exact ⟨ret_ib (by rw [HR.out]) (by rw [HR.out]), Below.trans (by repeat (first | exact Below.refl _ _ | apply below_drewN | apply Below.drew | apply Below.alloc | apply Below.setCell | omega | (focus (simp <;> omega)))) (hb.mono (by simp; omega))⟩
end Go.Proofs.Ytnobfmlfhaaghaa
