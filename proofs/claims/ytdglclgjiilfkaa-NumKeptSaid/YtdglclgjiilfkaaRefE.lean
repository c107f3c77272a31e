/- The reference of the layer num (spillwayref01): Sub, Div, Share: what each call returns; nothing that was there turns. -/
import Derived.Test.YtdglclgjiilfkaaRefD
namespace Go.Proofs.Ytdglclgjiilfkaa
open Go.RowKit
set_option linter.unusedVariables false
set_option linter.unusedSimpArgs false

set_option maxHeartbeats 1600000 in
theorem rsub_any (a b : Int) (w : World) (a0 : -9223372036854775808 ≤ a) (a1 : a ≤ 9223372036854775807) (b0 : -9223372036854775808 ≤ b) (b1 : b ≤ 9223372036854775807) :
    Calls Try.prog 18 #[.int .i64 a, .int .i64 b] w fun e w' => e = .returned (.tuple #[.int .i64 (fitN (a - b)), .int .i64 (fitE (a - b))]) ∧ Below w.heap.size w w' := by
  have hof := of_any b
  have sides : (b < 0 ∧ decide (b < 0) = true) ∨ (b = 0 ∧ decide (b < 0) = false) ∨ (0 < b ∧ decide (b < 0) = false) := by
    by_cases h : b < 0
    · exact Or.inl ⟨h, by simpa using h⟩
    · by_cases h' : b = 0
      · exact Or.inr (Or.inl ⟨h', by simpa using h⟩)
      · exact Or.inr (Or.inr ⟨by omega, by simpa using h⟩)
  obtain ⟨B, hB⟩ : ∃ B : Int, ((b.natAbs : Nat) : Int) = B := ⟨_, rfl⟩
  have hB1 : 0 ≤ B ∧ B ≤ 9223372036854775808 := by omega
  obtain ⟨hB0, hB1⟩ := hB1
  have hval : (b < 0 → sgn false B = -b) ∧ (b = 0 → sgn false B = -b) ∧ (0 < b → sgn true B = -b) := by
    refine ⟨fun h => ?_, fun h => ?_, fun h => ?_⟩ <;> simp [sgn] <;> omega
  have hpos : b ≠ 0 → 0 < B := by omega
  have hzero : b = 0 → ¬ 0 < B := by omega
  rw [hB] at hof
  clear hB
  have Hval := Lib.hid hval
  have Hpos := Lib.hid hpos
  have Hzero := Lib.hid hzero
  clear hval hpos hzero
  rcases sides with ⟨s1, s2⟩ | ⟨s1, s2⟩ | ⟨s1, s2⟩
  · rw [s2] at hof
    have Hof := Lib.hid hof
    have Hv := Lib.hid (Hval.out.1 s1)
    have hp := Hpos.out (by omega)
    clear hof s2
    go_enter Try.func18, Try.ntmps18
    go_wp2_with (fail)
    refine (Hof.out _ b0 b1).mono ?_
    rintro e w1 ⟨rfl, hb1⟩
    have hz := hb1.size
    go_wp2_with (fail)
    go_region_with (first | (go_at_call 37; refine (of_wide a _ a0 a1).mono ?_; rintro e w2 ⟨q, qh, ql, rfl, q0, q1, q2, q3, qv, hb2⟩; have qh0 := wide_small q0 q2 q3 qv (by omega) (by omega); have Qv := Lib.hid qv; clear qv; obtain ⟨hc2, hf2⟩ := bcell hb2; have hz2 := hb2.size; simp at hz2; have hz2a : w1.heap.size < w2.heap.size := (by omega); clear hz2) | (go_at_call 38; refine (plus_any _ _ _ _ _ _ _ (by omega) (by omega) (by omega) (by omega) (by omega) (by omega) (by omega) (by omega) (by omega)).mono ?_; rintro e w3 ⟨b3, h3, k3, rfl, x0, x1, y0, y1, hv, hb3⟩; have Hv3 := Lib.hid hv; clear hv; have hz3 := hb3.size) | (go_at_call 39; refine (small_any _ _ _ _ (by omega) (by omega) (by omega) (by omega)).mono ?_; rintro e w4 ⟨rfl, hb4⟩))
    all_goals
      have e4 := Lib.hid (show sgn b3 (h3 * 18446744073709551616 + k3) = a - b by rw [Hv3.out, Qv.out]; simp only [Int.zero_mul, Int.zero_add, Hv.out]; omega)
      rw [e4.out]
      go_wp2_with (fail)
      refine (rtold_any _ _ _).mono ?_
      rintro e w5 ⟨rfl, rfl⟩
      rw [fitN_of, fitE_of]
      go_wp2_with (fail)
      go_ret2
      have B2 : Below w.heap.size w w2 := Below.trans (by repeat (first | exact hb1 | exact Below.refl _ _ | apply below_drewN | apply Below.drew | apply Below.alloc | apply Below.setCell | omega | (focus (simp <;> omega)))) (hb2.mono (by simp; omega))
      have B3 := B2.trans (hb3.mono B2.size)
      exact ⟨rfl, B3.trans (hb4.mono B3.size)⟩
  · rw [s2] at hof
    have Hof := Lib.hid hof
    have Hv := Lib.hid (Hval.out.2.1 s1)
    have hp : decide (0 < B) = false := decide_eq_false (Hzero.out s1)
    clear hof s2 s1
    go_enter Try.func18, Try.ntmps18
    go_wp2_with (fail)
    refine (Hof.out _ b0 b1).mono ?_
    rintro e w1 ⟨rfl, hb1⟩
    have hz := hb1.size
    go_wp2_with (fail)
    go_region_with (first | (go_at_call 37; refine (of_wide a _ a0 a1).mono ?_; rintro e w2 ⟨q, qh, ql, rfl, q0, q1, q2, q3, qv, hb2⟩; have qh0 := wide_small q0 q2 q3 qv (by omega) (by omega); have Qv := Lib.hid qv; clear qv; obtain ⟨hc2, hf2⟩ := bcell hb2; have hz2 := hb2.size; simp at hz2; have hz2a : w1.heap.size < w2.heap.size := (by omega); clear hz2) | (go_at_call 38; refine (plus_any _ _ _ _ _ _ _ (by omega) (by omega) (by omega) (by omega) (by omega) (by omega) (by omega) (by omega) (by omega)).mono ?_; rintro e w3 ⟨b3, h3, k3, rfl, x0, x1, y0, y1, hv, hb3⟩; have Hv3 := Lib.hid hv; clear hv; have hz3 := hb3.size) | (go_at_call 39; refine (small_any _ _ _ _ (by omega) (by omega) (by omega) (by omega)).mono ?_; rintro e w4 ⟨rfl, hb4⟩))
    all_goals
      have e4 := Lib.hid (show sgn b3 (h3 * 18446744073709551616 + k3) = a - b by rw [Hv3.out, Qv.out]; simp only [Int.zero_mul, Int.zero_add, Hv.out]; omega)
      rw [e4.out]
      go_wp2_with (fail)
      refine (rtold_any _ _ _).mono ?_
      rintro e w5 ⟨rfl, rfl⟩
      rw [fitN_of, fitE_of]
      go_wp2_with (fail)
      go_ret2
      have B2 : Below w.heap.size w w2 := Below.trans (by repeat (first | exact hb1 | exact Below.refl _ _ | apply below_drewN | apply Below.drew | apply Below.alloc | apply Below.setCell | omega | (focus (simp <;> omega)))) (hb2.mono (by simp; omega))
      have B3 := B2.trans (hb3.mono B2.size)
      exact ⟨rfl, B3.trans (hb4.mono B3.size)⟩
  · rw [s2] at hof
    have Hof := Lib.hid hof
    have Hv := Lib.hid (Hval.out.2.2 s1)
    have hp := Hpos.out (by omega)
    clear hof s2
    go_enter Try.func18, Try.ntmps18
    go_wp2_with (fail)
    refine (Hof.out _ b0 b1).mono ?_
    rintro e w1 ⟨rfl, hb1⟩
    have hz := hb1.size
    go_wp2_with (fail)
    go_region_with (first | (go_at_call 37; refine (of_wide a _ a0 a1).mono ?_; rintro e w2 ⟨q, qh, ql, rfl, q0, q1, q2, q3, qv, hb2⟩; have qh0 := wide_small q0 q2 q3 qv (by omega) (by omega); have Qv := Lib.hid qv; clear qv; obtain ⟨hc2, hf2⟩ := bcell hb2; have hz2 := hb2.size; simp at hz2; have hz2a : w1.heap.size < w2.heap.size := (by omega); clear hz2) | (go_at_call 38; refine (plus_any _ _ _ _ _ _ _ (by omega) (by omega) (by omega) (by omega) (by omega) (by omega) (by omega) (by omega) (by omega)).mono ?_; rintro e w3 ⟨b3, h3, k3, rfl, x0, x1, y0, y1, hv, hb3⟩; have Hv3 := Lib.hid hv; clear hv; have hz3 := hb3.size) | (go_at_call 39; refine (small_any _ _ _ _ (by omega) (by omega) (by omega) (by omega)).mono ?_; rintro e w4 ⟨rfl, hb4⟩))
    all_goals
      have e4 := Lib.hid (show sgn b3 (h3 * 18446744073709551616 + k3) = a - b by rw [Hv3.out, Qv.out]; simp only [Int.zero_mul, Int.zero_add, Hv.out]; omega)
      rw [e4.out]
      go_wp2_with (fail)
      refine (rtold_any _ _ _).mono ?_
      rintro e w5 ⟨rfl, rfl⟩
      rw [fitN_of, fitE_of]
      go_wp2_with (fail)
      go_ret2
      have B2 : Below w.heap.size w w2 := Below.trans (by repeat (first | exact hb1 | exact Below.refl _ _ | apply below_drewN | apply Below.drew | apply Below.alloc | apply Below.setCell | omega | (focus (simp <;> omega)))) (hb2.mono (by simp; omega))
      have B3 := B2.trans (hb3.mono B2.size)
      exact ⟨rfl, B3.trans (hb4.mono B3.size)⟩

set_option maxHeartbeats 400000 in
theorem rdiv_any (a c : Int) (up : Bool) (w : World) (a0 : -9223372036854775808 ≤ a) (a1 : a ≤ 9223372036854775807) (c0 : -9223372036854775808 ≤ c) (c1 : c ≤ 9223372036854775807) :
    Calls Try.prog 20 #[.int .i64 a, .int .i64 c, .bool up] w fun e w' => e = .returned (.tuple #[.int .i64 (mdN a 1 c up), .int .i64 (mdE a 1 c up)]) ∧ Below w.heap.size w w' := by
  by_cases cz : c = 0
  · have e1 := Lib.hid (show mdN a 1 c up = 0 by simp [mdN, cz])
    have e2 := Lib.hid (show mdE a 1 c up = 9 by simp [mdE, cz])
    rw [e1.out, e2.out]
    have cb : (c == 0) = true := by simpa using cz
    clear cz
    go_enter Try.func20, Try.ntmps20
    go_wp2_with (fail)
    go_ret2
    exact ⟨rfl, Below.refl _ _⟩
  · have e1 := Lib.hid (show mdN a 1 c up = fitN (rnd a c up) by simp [mdN, cz])
    have e2 := Lib.hid (show mdE a 1 c up = fitE (rnd a c up) by simp [mdE, cz])
    rw [e1.out, e2.out]
    have cb : (c == 0) = false := by simpa using cz
    go_enter Try.func20, Try.ntmps20
    go_wp2_with (fail)
    refine (of_wide a _ a0 a1).mono ?_
    rintro e w1 ⟨bb, hi, lo, rfl, h0, h1, l0, l1, hv, hb1⟩
    have hi0 := wide_small h0 l0 l1 hv (by omega) (by omega)
    have Hv := Lib.hid hv
    clear hv
    go_wp2_with (fail)
    refine (rby_any bb hi lo c up _ h0 hi0 l0 l1 c0 c1 cz).mono ?_
    rintro e w2 ⟨rfl, hb2⟩
    rw [Hv.out]
    go_wp2_with (fail)
    refine (rtold_any _ _ _).mono ?_
    rintro e w3 ⟨rfl, rfl⟩
    rw [fitN_of, fitE_of]
    go_wp2_with (fail)
    go_ret2
    exact ⟨rfl, hb1.trans (hb2.mono hb1.size)⟩

theorem rshare_any (a b : Int) (w : World) (a0 : -9223372036854775808 ≤ a) (a1 : a ≤ 9223372036854775807) (b0 : -9223372036854775808 ≤ b) (b1 : b ≤ 9223372036854775807) :
    Calls Try.prog 23 #[.int .i64 a, .int .i64 b] w fun e w' => e = .returned (.tuple #[.int .i64 (shN a b), .int .i64 (shE a b)]) ∧ Below w.heap.size w w' := by
  by_cases h1 : a < 0
  · have e1 : shN a b = 0 := by simp [shN, h1]
    have e2 : shE a b = 2 := by simp [shE, h1]
    rw [e1, e2]
    clear e1 e2
    go_enter Try.func23, Try.ntmps23
    go_wp2_with (fail)
    go_ret2
    exact ⟨rfl, Below.refl _ _⟩
  · by_cases h2 : b < a
    · have e1 : shN a b = 0 := by simp [shN, h2]
      have e2 : shE a b = 2 := by simp [shE, h2]
      rw [e1, e2]
      clear e1 e2
      go_enter Try.func23, Try.ntmps23
      go_wp2_with (fail)
      go_ret2
      exact ⟨rfl, Below.refl _ _⟩
    · by_cases h3 : b = 0
      · have e1 : shN a b = 0 := by simp only [shN]; rw [if_neg (by omega), if_pos h3]
        have e2 : shE a b = 0 := by simp only [shE]; rw [if_neg (by omega), if_pos h3]
        rw [e1, e2]
        clear e1 e2
        have cb : (b == 0) = true := by simpa using h3
        clear h3
        go_enter Try.func23, Try.ntmps23
        go_wp2_with (fail)
        go_ret2
        exact ⟨rfl, Below.refl _ _⟩
      · have e1 : shN a b = mdN 1000 a b false := by simp only [shN]; rw [if_neg (by omega), if_neg h3]
        have e2 : shE a b = mdE 1000 a b false := by simp only [shE]; rw [if_neg (by omega), if_neg h3]
        rw [e1, e2]
        clear e1 e2
        have cb : (b == 0) = false := by simpa using h3
        go_enter Try.func23, Try.ntmps23
        go_wp2_with (fail)
        refine (rmuldiv_any 1000 a b false _ (by decide) (by decide) a0 a1 b0 b1).mono ?_
        rintro e w1 ⟨rfl, hb1⟩
        go_wp2_with (fail)
        go_ret2
        exact ⟨rfl, hb1⟩
end Go.Proofs.Ytdglclgjiilfkaa
