/- Plain integers for math/bits.Div64: the shift that fills the divisor up, and the two digits put together. No program here. -/
import Derived.Lib.ItoaNum
import Derived.Laws.BitsAllLaws
import Derived.Test.YtlipbkpbflgamaaNumMath
namespace Go.Proofs.Ytlipbkpbflgamaa

theorem lz_spec (y : Int) (h0 : 0 < y) (h1 : y < 18446744073709551616) :
    ∃ s : Nat, (64 - (Lib.bitLen y.toNat : Int)) = (s : Int) ∧ s ≤ 63 ∧ 9223372036854775808 ≤ y * 2 ^ s ∧ y * 2 ^ s < 18446744073709551616 := by
  obtain ⟨n, rfl⟩ := Int.eq_ofNat_of_zero_le (by omega : 0 ≤ y)
  rw [Int.toNat_natCast]
  obtain ⟨b1, b2, b3⟩ := Lib.bitLenAux_bounds 64 n (by omega) (by omega)
  have hb : Lib.bitLen n = Lib.bitLenAux 64 n := rfl
  have hle : Lib.bitLenAux 64 n ≤ 64 := by
    apply Classical.byContradiction; intro hn
    have h2 : 2 ^ 64 ≤ 2 ^ (Lib.bitLenAux 64 n - 1) := Nat.pow_le_pow_right (by omega) (by omega)
    omega
  refine ⟨64 - Lib.bitLenAux 64 n, by rw [hb]; omega, by omega, ?_, ?_⟩
  · have h3 : 2 ^ (Lib.bitLenAux 64 n - 1) * 2 ^ (64 - Lib.bitLenAux 64 n) ≤ n * 2 ^ (64 - Lib.bitLenAux 64 n) := Nat.mul_le_mul_right _ b2
    rw [← Nat.pow_add, show Lib.bitLenAux 64 n - 1 + (64 - Lib.bitLenAux 64 n) = 63 from by omega] at h3
    have h4 : ((2 ^ 63 : Nat) : Int) ≤ ((n * 2 ^ (64 - Lib.bitLenAux 64 n) : Nat) : Int) := Int.ofNat_le.2 h3
    rw [Int.natCast_mul, Int.natCast_pow] at h4
    exact h4
  · have h3 : n * 2 ^ (64 - Lib.bitLenAux 64 n) < 2 ^ Lib.bitLenAux 64 n * 2 ^ (64 - Lib.bitLenAux 64 n) := Nat.mul_lt_mul_of_pos_right b3 (Nat.two_pow_pos _)
    rw [← Nat.pow_add, show Lib.bitLenAux 64 n + (64 - Lib.bitLenAux 64 n) = 64 from by omega] at h3
    have h4 : ((n * 2 ^ (64 - Lib.bitLenAux 64 n) : Nat) : Int) < ((2 ^ 64 : Nat) : Int) := Int.ofNat_lt.2 h3
    rw [Int.natCast_mul, Int.natCast_pow] at h4
    exact h4

/-- The upper word of the dividend, shifted: an 'or' that is a sum. -/
theorem un32_or (hi lo : Int) (s : Nat) (hs : s ≤ 63) (h0 : 0 ≤ hi) (h1 : hi * 2 ^ s < 18446744073709551616) (h2 : 0 ≤ lo) (h3 : lo < 18446744073709551616) :
    bits .or .u64 (hi * 2 ^ s) (lo / 2 ^ (64 - s)) = hi * 2 ^ s + lo / 2 ^ (64 - s) := by
  obtain ⟨a, rfl⟩ := Int.eq_ofNat_of_zero_le h0
  obtain ⟨b, rfl⟩ := Int.eq_ofNat_of_zero_le h2
  have hb : b < 2 ^ 64 := by omega
  have hlt : b / 2 ^ (64 - s) < 2 ^ s := by
    apply Nat.div_lt_of_lt_mul
    rw [← Nat.pow_add, show 64 - s + s = 64 from by omega]; exact hb
  have hs2 : 2 ^ s ≤ 2 ^ 63 := Nat.pow_le_pow_right (by omega) hs
  have c1 : ((a : Int) * 2 ^ s) = ((a * 2 ^ s : Nat) : Int) := by rw [Int.natCast_mul, Int.natCast_pow]; rfl
  have c2 : ((b : Int) / 2 ^ (64 - s)) = ((b / 2 ^ (64 - s) : Nat) : Int) := by rw [Int.natCast_ediv, Int.natCast_pow]; rfl
  have k1 : a * 2 ^ s < 18446744073709551616 := by rw [c1] at h1; omega
  have k2 : b / 2 ^ (64 - s) < 18446744073709551616 := by omega
  rw [c1, c2, u64_or_nat _ _ k1 k2]
  have := Nat.two_pow_add_eq_or_of_lt hlt a
  rw [Nat.mul_comm (2 ^ s) a] at this
  rw [← this]; rfl

/-- The shifted dividend in its words. -/
theorem dividend_split (hi lo : Int) (s : Nat) (hs : s ≤ 63) (_h2 : 0 ≤ lo) :
    (hi * 18446744073709551616 + lo) * 2 ^ s = (hi * 2 ^ s + lo / 2 ^ (64 - s)) * 18446744073709551616 + lo * 2 ^ s % 18446744073709551616 := by
  have e : (2 : Int) ^ (64 - s) * 2 ^ s = 18446744073709551616 := by
    rw [← Int.pow_add, show 64 - s + s = 64 from by omega]; rfl
  have hp : (0 : Int) < 2 ^ s := Int.pow_pos (by decide)
  have k1 : lo * 2 ^ s / 18446744073709551616 = lo / 2 ^ (64 - s) := by
    rw [← e, Int.mul_ediv_mul_of_pos_left _ _ hp]
  have k2 := Int.mul_ediv_add_emod (lo * 2 ^ s) 18446744073709551616
  rw [k1] at k2
  rw [Int.add_mul, Int.add_mul]
  have k3 : hi * 18446744073709551616 * 2 ^ s = hi * 2 ^ s * 18446744073709551616 := by rw [Int.mul_assoc, Int.mul_comm 18446744073709551616, ← Int.mul_assoc]
  omega

/-- Two digits are the quotient; what is left, shifted back, the remainder. -/
theorem two_digits (N y U c1 c0 Y q1 u21 q0 P : Int) (hP : 0 < P) (hy : 0 < y) (hY : Y = y * P) (hN : N * P = U * 18446744073709551616 + (c1 * 4294967296 + c0))
    (_d1 : q1 = (U * 4294967296 + c1) / Y) (e1 : u21 = U * 4294967296 + c1 - q1 * Y) (d0 : q0 = (u21 * 4294967296 + c0) / Y) :
    q1 * 4294967296 + q0 = N / y ∧ (u21 * 4294967296 + c0 - q0 * Y) / P = N % y := by
  have hYp : 0 < Y := by rw [hY]; exact Int.mul_pos hy hP
  have m0 := Int.mul_ediv_add_emod (u21 * 4294967296 + c0) Y
  have m1 := Int.emod_nonneg (u21 * 4294967296 + c0) (show Y ≠ 0 by omega)
  have m2 := Int.emod_lt_of_pos (u21 * 4294967296 + c0) hYp
  rw [← d0] at m0
  have hR : u21 * 4294967296 + c0 - q0 * Y = (u21 * 4294967296 + c0) % Y := by rw [Int.mul_comm q0 Y]; omega
  have hNP : N * P = Y * (q1 * 4294967296 + q0) + (u21 * 4294967296 + c0) % Y := by
    rw [hN, ← hR, Int.mul_add Y, ← Int.mul_assoc, Int.mul_comm Y q1, Int.mul_comm Y q0]
    omega
  have hq : N / y = q1 * 4294967296 + q0 := by
    have t1 : N * P / (y * P) = N / y := Int.mul_ediv_mul_of_pos_left N y hP
    rw [← t1, ← hY, hNP, Int.mul_add_ediv_left _ _ (by omega), Int.ediv_eq_zero_of_lt m1 m2]; omega
  refine ⟨hq.symm, ?_⟩
  have t2 : (u21 * 4294967296 + c0) % Y = (N % y) * P := by
    have t3 := Int.mul_ediv_add_emod N y
    rw [hq] at t3
    have t4 : N * P = (y * (q1 * 4294967296 + q0) + N % y) * P := by rw [t3]
    rw [hNP, Int.add_mul, hY] at t4
    have t5 : y * (q1 * 4294967296 + q0) * P = y * P * (q1 * 4294967296 + q0) := by rw [Int.mul_assoc, Int.mul_comm _ P, ← Int.mul_assoc]
    rw [hY]; omega
  rw [hR, t2, Int.mul_ediv_cancel _ (by omega)]
end Go.Proofs.Ytlipbkpbflgamaa
