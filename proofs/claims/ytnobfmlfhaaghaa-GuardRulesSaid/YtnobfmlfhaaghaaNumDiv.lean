/- math/bits.Div64: the quotient and the remainder of 128 bits by 64, where the quotient has 64 bits. -/
import Derived.Test.YtnobfmlfhaaghaaShelf
import Derived.Test.YtnobfmlfhaaghaaNumDivMath
import Derived.WalkKit
import Derived.WalkSpells
import Derived.WalkLawsBesides
import Derived.BigQuiet
import Derived.Deep.QuietTactic
import Derived.Deep.DeepCutAuto
import Derived.Deep.CutBlock
import Derived.Lib.Hide
namespace Go.Proofs.Ytnobfmlfhaaghaa
open Go.RowKit
set_option linter.unusedVariables false

theorem ret_uu {a b c d : Int} (h : a = b) (h' : c = d) : Ending.returned (.tuple #[.int .u64 a, .int .u64 c]) = .returned (.tuple #[.int .u64 b, .int .u64 d]) := by rw [h, h']

set_option maxRecDepth 100000 in
set_option maxHeartbeats 1000000 in
theorem div64_zero (lo y : Int) (w : World) (h2 : 0 ≤ lo) (h3 : lo < 18446744073709551616) (h4 : 0 < y) (h5 : y < 18446744073709551616) :
    Calls Try.prog 82 #[.int .u64 0, .int .u64 lo, .int .u64 y] w fun e w' => e = .returned (.tuple #[.int .u64 (lo / y), .int .u64 (lo % y)]) ∧ ∃ m, w' = w.drewN m := by
  have e1 : (y == 0) = false := by simp; omega
  have e2 : ¬ y = 0 := by omega
  have e3 : ¬ y ≤ 0 := by omega
  go_enter Try.func82, Try.ntmps82
  go_wp2
  go_region
  all_goals
    go_wp2
    go_ret2
    exact ⟨rfl, 1, rfl⟩

set_option maxRecDepth 100000 in
set_option maxHeartbeats 2000000 in
theorem div64_big (hi lo y : Int) (w : World) (h0 : 0 < hi) (h1 : hi < y) (h2 : 0 ≤ lo) (h3 : lo < 18446744073709551616) (h5 : y < 18446744073709551616) :
    Calls Try.prog 82 #[.int .u64 hi, .int .u64 lo, .int .u64 y] w fun e w' => e = .returned (.tuple #[.int .u64 ((hi * 18446744073709551616 + lo) / y), .int .u64 ((hi * 18446744073709551616 + lo) % y)]) ∧ ∃ m, w' = w.drewN m := by
  have e1 : (y == 0) = false := by simp; omega
  have e2 : ¬ y ≤ hi := by omega
  have e3 : (hi == 0) = false := by simp; omega
  obtain ⟨s, hs, hs63, hy1, hy2⟩ := lz_spec y (by omega) (by omega)
  have hP : (0 : Int) < 2 ^ s := Int.pow_pos (by decide)
  have hH : hi * 2 ^ s < y * 2 ^ s := Int.mul_lt_mul_of_pos_right h1 hP
  have hH0 : 0 ≤ hi * 2 ^ s := Int.mul_nonneg (by omega) (by omega)
  have hor := un32_or hi lo s hs63 (by omega) (by omega) h2 h3
  have hsp := dividend_split hi lo s hs63 h2
  obtain ⟨P, hPe⟩ : ∃ P : Int, (2 : Int) ^ s = P := ⟨_, rfl⟩
  obtain ⟨L, hLe⟩ : ∃ L : Int, lo * P % 18446744073709551616 = L := ⟨_, rfl⟩
  have hL0 : 0 ≤ L := by rw [← hLe]; exact Int.emod_nonneg _ (by decide)
  have hL1 : L < 18446744073709551616 := by rw [← hLe]; exact Int.emod_lt_of_pos _ (by decide)
  obtain ⟨U, hUe⟩ : ∃ U : Int, hi * 2 ^ s + lo / 2 ^ (64 - s) = U := ⟨_, rfl⟩
  obtain ⟨Y, hYe⟩ : ∃ Y : Int, y * 2 ^ s = Y := ⟨_, rfl⟩
  rw [hUe, hPe, hLe] at hsp
  rw [hUe] at hor
  have hUY : U < Y := by
    have t1 : (hi * 18446744073709551616 + lo) * P < Y * 18446744073709551616 := by
      rw [← hYe, hPe]
      have t2 : (hi * 18446744073709551616 + lo) * P < (y * 18446744073709551616) * P := Int.mul_lt_mul_of_pos_right (by omega) (by omega)
      have t3 : y * 18446744073709551616 * P = y * P * 18446744073709551616 := by rw [Int.mul_assoc, Int.mul_comm _ P, ← Int.mul_assoc]
      omega
    rw [hsp] at t1; omega
  have hU0 : 0 ≤ U := by
    have : 0 ≤ lo / 2 ^ (64 - s) := Int.ediv_nonneg h2 (Int.le_of_lt (Int.pow_pos (by decide)))
    omega
  rw [hYe] at hy1 hy2 hH
  rw [hPe] at hor hYe hH hH0
  obtain ⟨v1, hv1⟩ : ∃ v1 : Int, Y / 4294967296 = v1 := ⟨_, rfl⟩
  obtain ⟨v0, hv0⟩ : ∃ v0 : Int, Y % 4294967296 = v0 := ⟨_, rfl⟩
  obtain ⟨c1, hc1⟩ : ∃ c1 : Int, L / 4294967296 = c1 := ⟨_, rfl⟩
  obtain ⟨c0, hc0⟩ : ∃ c0 : Int, L % 4294967296 = c0 := ⟨_, rfl⟩
  have hYs : Y = v1 * 4294967296 + v0 := by omega
  have hLs : L = c1 * 4294967296 + c0 := by omega
  have ctx1 : DigCtx v1 v0 U c1 := ⟨by omega, by omega, by omega, by omega, by omega, by omega, hU0, by omega⟩
  have st1 := dig_start ctx1
  obtain ⟨q1s, hq1s⟩ : ∃ q : Int, U / v1 = q := ⟨_, rfl⟩
  obtain ⟨r1s, hr1s⟩ : ∃ r : Int, U - q1s * v1 = r := ⟨_, rfl⟩
  rw [hq1s, hr1s] at st1
  obtain ⟨Q1, hQ1⟩ : ∃ Q1 : Int, (U * 4294967296 + c1) / Y = Q1 := ⟨_, rfl⟩
  have hQ1' : (U * 4294967296 + c1) / (v1 * 4294967296 + v0) = Q1 := by rw [← hYs]; exact hQ1
  have hQ1a : 0 ≤ Q1 := by rw [← hQ1']; exact dig_pos ctx1
  have hQ1b : Q1 < 4294967296 := by rw [← hQ1']; exact dig_lt ctx1
  obtain ⟨u21, hu21⟩ : ∃ u : Int, U * 4294967296 + c1 - Q1 * Y = u := ⟨_, rfl⟩
  have hu21' : U * 4294967296 + c1 - Q1 * Y = (U * 4294967296 + c1) % Y := by have := Int.mul_ediv_add_emod (U * 4294967296 + c1) Y; rw [hQ1, Int.mul_comm] at this; omega
  have hu21a : 0 ≤ u21 := by rw [← hu21, hu21']; exact Int.emod_nonneg _ (by omega)
  have hu21b : u21 < Y := by rw [← hu21, hu21']; exact Int.emod_lt_of_pos _ (by omega)
  have ctx0 : DigCtx v1 v0 u21 c0 := ⟨by omega, by omega, by omega, by omega, by omega, by omega, hu21a, by omega⟩
  have st0 := dig_start ctx0
  obtain ⟨q0s, hq0s⟩ : ∃ q : Int, u21 / v1 = q := ⟨_, rfl⟩
  obtain ⟨r0s, hr0s⟩ : ∃ r : Int, u21 - q0s * v1 = r := ⟨_, rfl⟩
  rw [hq0s, hr0s] at st0
  obtain ⟨Q0, hQ0⟩ : ∃ Q0 : Int, (u21 * 4294967296 + c0) / Y = Q0 := ⟨_, rfl⟩
  have hQ0' : (u21 * 4294967296 + c0) / (v1 * 4294967296 + v0) = Q0 := by rw [← hYs]; exact hQ0
  have hQ0a : 0 ≤ Q0 := by rw [← hQ0']; exact dig_pos ctx0
  have hQ0b : Q0 < 4294967296 := by rw [← hQ0']; exact dig_lt ctx0
  have fin := two_digits (hi * 18446744073709551616 + lo) y U c1 c0 Y Q1 u21 Q0 P (by omega) (by omega) hYe.symm (by rw [hsp, hLs]) hQ1.symm hu21.symm hQ0.symm
  have hQ0c : Q0 * Y ≤ u21 * 4294967296 + c0 := by rw [← hQ0]; exact Int.ediv_mul_le _ (by omega)
  have hQ0d : u21 * 4294967296 + c0 < Q0 * Y + Y := by have := Int.lt_ediv_add_one_mul_self (u21 * 4294967296 + c0) (show 0 < Y by omega); rw [hQ0, Int.add_mul] at this; omega
  -- the forms in which the walk meets them
  have w0 : IntKind.u64.wrap (lo * P) = L := by rw [IntKind.wrap_u64]; exact hLe
  have w1 : IntKind.u64.wrap (hi * P) = hi * P := IntWalk.u64_in _ (by omega)
  have w2 : bits BinOp.and IntKind.u64 Y 4294967295 = v0 := by rw [and_low32 _ (by omega) (by omega)]; exact hv0
  have w3 : bits BinOp.and IntKind.u64 L 4294967295 = c0 := by rw [and_low32 _ (by omega) (by omega)]; exact hc0
  have w4 : IntKind.u64.wrap (U.tdiv v1) = q1s := by rw [IntWalk.u64_quo _ _ (by have := ctx1.a1; omega)]; exact hq1s
  have w5 : IntKind.u64.wrap (U - IntKind.u64.wrap (q1s * v1)) = r1s := by
    have := st1.r0; have := st1.r1; have := st1.q0; have hh := ctx1.a1
    have : 0 ≤ q1s * v1 := Int.mul_nonneg (by omega) (by omega)
    rw [IntWalk.u64_in (q1s * v1) (by omega), hr1s]; exact IntWalk.u64_in _ (by omega)
  have w6 : IntKind.u64.wrap (IntKind.u64.wrap (IntKind.u64.wrap (U * 4294967296) + c1) - IntKind.u64.wrap (Q1 * Y)) = u21 := by
    simp only [IntKind.wrap_u64]; omega
  have w7 : IntKind.u64.wrap (u21.tdiv v1) = q0s := by rw [IntWalk.u64_quo _ _ (by have := ctx1.a1; omega)]; exact hq0s
  have w8 : IntKind.u64.wrap (u21 - IntKind.u64.wrap (q0s * v1)) = r0s := by
    have := st0.r0; have := st0.r1; have := st0.q0; have hh := ctx1.a1
    have : 0 ≤ q0s * v1 := Int.mul_nonneg (by omega) (by omega)
    rw [IntWalk.u64_in (q0s * v1) (by omega), hr0s]; exact IntWalk.u64_in _ (by omega)
  have w9 : IntKind.u64.wrap (IntKind.u64.wrap (IntKind.u64.wrap (u21 * 4294967296) + c0) - IntKind.u64.wrap (Q0 * Y)) = u21 * 4294967296 + c0 - Q0 * Y := by
    simp only [IntKind.wrap_u64]; omega
  have Hs := Lib.hid hs
  have Hc1 := Lib.hid ctx1
  have Hc0 := Lib.hid ctx0
  have Hst1 := Lib.hid st1
  have Hst0 := Lib.hid st0
  have HQ1 := Lib.hid hQ1'
  have HQ0 := Lib.hid hQ0'
  have Hfin := Lib.hid fin
  have hv1a : 2147483648 ≤ v1 := ctx1.a1
  have hv1b : v1 < 4294967296 := ctx1.a2
  have hv0a : 0 ≤ v0 := ctx1.b1
  have hv0b : v0 < 4294967296 := ctx1.b2
  have hc1a : 0 ≤ c1 := ctx1.c1
  have hc1b : c1 < 4294967296 := ctx1.c2
  have hc0a : 0 ≤ c0 := ctx0.c1
  have hc0b : c0 < 4294967296 := ctx0.c2
  clear hsp hs hUe hq1s hr1s hQ1 hQ1' hu21 hu21' hq0s hr0s hQ0 hQ0' fin ctx1 ctx0 st1 st0 hYs hLs hLe hv0 hc0
  have m1 : min s 64 = s := by omega
  have m2 : (64 - (s : Int)).toNat = 64 - s := by omega
  have m3 : min (64 - s) 64 = 64 - s := by omega
  go_enter Try.func82, Try.ntmps82
  go_wp2_with (fail)
  refine (Try.bits_LeadingZeros64 y _ (by omega) (by omega)).mono ?_
  rintro e w' ⟨rfl, rfl⟩
  rw [Hs.out]
  go_upto_block 0 with (fail)
  go_cut [15, 16] from 67 to 85 (fun q r wx => q = .int .u64 Q1 ∧ wx = w')
  case first =>
    go_wp2_with (fail)
    go_loop [15, 16] (fun q r => ∃ a b : Int, q = .int .u64 a ∧ r = .int .u64 b ∧ Hid (DigInv v1 v0 U c1 a b)) (fun q _ => (intOf q).toNat)
    case atStart => exact ⟨_, _, rfl, rfl, Hst1⟩
    case round =>
      obtain ⟨a, b, rfl, rfl, hI⟩ := hrel
      have a0 : 0 ≤ a := hI.out.q0
      have a1 : a < 18446744073709551616 := hI.out.q1
      have b0 : 0 ≤ b := hI.out.r0
      have b1 : b < 4294967296 := hI.out.r1
      by_cases t1 : 4294967296 ≤ a
      · by_cases tb : 4294967296 ≤ b + v1
        · have hb := Lib.hid (dig_break Hc1.out hI.out (Or.inl t1) tb)
          go_wp2_with (fail)
          go_meet
          exact ⟨by rw [hb.out, HQ1.out], rfl⟩
        · have hb := Lib.hid (dig_next Hc1.out hI.out (Or.inl t1) (by omega))
          go_wp2_with (fail)
          go_round
          case rel => exact ⟨_, _, rfl, rfl, hb⟩
          case measure => simp [intOf]; omega
      · have hm0 : 0 ≤ a * v0 := Int.mul_nonneg a0 hv0a
        have hm1 : a * v0 ≤ 4294967295 * 4294967296 := by
          have : a * v0 ≤ 4294967295 * v0 := Int.mul_le_mul_of_nonneg_right (by omega) hv0a
          omega
        by_cases t2 : 4294967296 * b + c1 < a * v0
        · by_cases tb : 4294967296 ≤ b + v1
          · have hb := Lib.hid (dig_break Hc1.out hI.out (Or.inr t2) tb)
            have hl := (dig_less Hc1.out hI.out (Or.inr t2)).2.1
            go_wp2_with (fail)
            go_meet
            exact ⟨by rw [hb.out, HQ1.out], rfl⟩
          · have hb := Lib.hid (dig_next Hc1.out hI.out (Or.inr t2) (by omega))
            have hl := (dig_less Hc1.out hI.out (Or.inr t2)).2.1
            go_wp2_with (fail)
            go_round
            case rel => exact ⟨_, _, rfl, rfl, hb⟩
            case measure => simp [intOf]; omega
        · have hb := Lib.hid (dig_end Hc1.out hI.out (by omega) (by omega))
          go_wp2_with (fail)
          go_meet
          exact ⟨by rw [hb.out, HQ1.out], rfl⟩
  case rest =>
    obtain ⟨rfl, rfl⟩ := hcut
    go_upto_block 2 with (fail)
    go_cut [18, 16] from 102 to 120 (fun q r wx => q = .int .u64 Q0 ∧ wx = wc)
    case first =>
      go_wp2_with (fail)
      go_loop [18, 16] (fun q r => ∃ a b : Int, q = .int .u64 a ∧ r = .int .u64 b ∧ Hid (DigInv v1 v0 u21 c0 a b)) (fun q _ => (intOf q).toNat)
      case atStart => exact ⟨_, _, rfl, rfl, Hst0⟩
      case round =>
        obtain ⟨a, b, rfl, rfl, hI⟩ := hrel
        have a0 : 0 ≤ a := hI.out.q0
        have a1 : a < 18446744073709551616 := hI.out.q1
        have b0 : 0 ≤ b := hI.out.r0
        have b1 : b < 4294967296 := hI.out.r1
        by_cases t1 : 4294967296 ≤ a
        · by_cases tb : 4294967296 ≤ b + v1
          · have hb := Lib.hid (dig_break Hc0.out hI.out (Or.inl t1) tb)
            go_wp2_with (fail)
            go_meet
            exact ⟨by rw [hb.out, HQ0.out], rfl⟩
          · have hb := Lib.hid (dig_next Hc0.out hI.out (Or.inl t1) (by omega))
            go_wp2_with (fail)
            go_round
            case rel => exact ⟨_, _, rfl, rfl, hb⟩
            case measure => simp [intOf]; omega
        · have hm0 : 0 ≤ a * v0 := Int.mul_nonneg a0 hv0a
          have hm1 : a * v0 ≤ 4294967295 * 4294967296 := by
            have : a * v0 ≤ 4294967295 * v0 := Int.mul_le_mul_of_nonneg_right (by omega) hv0a
            omega
          by_cases t2 : 4294967296 * b + c0 < a * v0
          · by_cases tb : 4294967296 ≤ b + v1
            · have hb := Lib.hid (dig_break Hc0.out hI.out (Or.inr t2) tb)
              have hl := (dig_less Hc0.out hI.out (Or.inr t2)).2.1
              go_wp2_with (fail)
              go_meet
              exact ⟨by rw [hb.out, HQ0.out], rfl⟩
            · have hb := Lib.hid (dig_next Hc0.out hI.out (Or.inr t2) (by omega))
              have hl := (dig_less Hc0.out hI.out (Or.inr t2)).2.1
              go_wp2_with (fail)
              go_round
              case rel => exact ⟨_, _, rfl, rfl, hb⟩
              case measure => simp [intOf]; omega
          · have hb := Lib.hid (dig_end Hc0.out hI.out (by omega) (by omega))
            go_wp2_with (fail)
            go_meet
            exact ⟨by rw [hb.out, HQ0.out], rfl⟩
    case rest =>
      obtain ⟨rfl, rfl⟩ := hcut
      go_wp2_with (fail)
      go_ret2
      exact ⟨ret_uu (by rw [Hfin.out.1]) (by rw [Hfin.out.2]), 0, rfl⟩
end Go.Proofs.Ytnobfmlfhaaghaa
