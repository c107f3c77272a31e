/- Plain integers for the layer num: what its functions compute, and the division of 128 bits by 64. No program here. -/
namespace Go.Proofs.Ytlipbkpbflgamaa

/-- Can an int64 hold it? -/
def fitB (v : Int) : Bool := decide (-9223372036854775808 ≤ v ∧ v ≤ 9223372036854775807)
/-- The number, or 0 where it can't be held. -/
def fitN (v : Int) : Int := if fitB v then v else 0
/-- The error of a number: 0, or 8 (it can't be held). -/
def fitE (v : Int) : Int := if fitB v then 0 else 8
/-- Kept within int64. -/
def keep (v : Int) : Int := if v < -9223372036854775808 then -9223372036854775808 else if 9223372036854775807 < v then 9223372036854775807 else v
/-- The end of int64 on a side. -/
def edgeV (b : Bool) : Int := if b then -9223372036854775808 else 9223372036854775807
/-- A quotient, rounded down or up. -/
def rnd (v c : Int) (up : Bool) : Int := if up then -((-v).fdiv c) else v.fdiv c
/-- A sign and a size. -/
def sgn (b : Bool) (m : Int) : Int := if b then -m else m

theorem fitB_iff (v : Int) : fitB v = true ↔ -9223372036854775808 ≤ v ∧ v ≤ 9223372036854775807 := by simp [fitB]
theorem fitB_yes {v : Int} (h0 : -9223372036854775808 ≤ v) (h1 : v ≤ 9223372036854775807) : fitB v = true := (fitB_iff v).2 ⟨h0, h1⟩
theorem fitB_no {v : Int} (h : v < -9223372036854775808 ∨ 9223372036854775807 < v) : fitB v = false := by
  cases hb : fitB v with
  | false => rfl
  | true => have := (fitB_iff v).1 hb; omega
theorem fitN_yes {v : Int} (h : fitB v = true) : fitN v = v := by simp [fitN, h]
theorem fitN_no {v : Int} (h : fitB v = false) : fitN v = 0 := by simp [fitN, h]
theorem fitE_yes {v : Int} (h : fitB v = true) : fitE v = 0 := by simp [fitE, h]
theorem fitE_no {v : Int} (h : fitB v = false) : fitE v = 8 := by simp [fitE, h]
theorem fitN_bd (v : Int) : -9223372036854775808 ≤ fitN v ∧ fitN v ≤ 9223372036854775807 := by
  cases h : fitB v with
  | true => rw [fitN_yes h]; exact (fitB_iff v).1 h
  | false => rw [fitN_no h]; omega
theorem keep_bd (v : Int) : -9223372036854775808 ≤ keep v ∧ keep v ≤ 9223372036854775807 := by
  unfold keep; split
  · omega
  · split <;> omega
theorem keep_fit {v : Int} (h : fitB v = true) : keep v = v := by
  have := (fitB_iff v).1 h
  unfold keep; rw [if_neg (by omega), if_neg (by omega)]
theorem keep_below {v : Int} (h : fitB v = false) (hv : v < 0) : keep v = -9223372036854775808 := by
  unfold keep; rw [if_pos]
  apply Classical.byContradiction; intro hn
  have := fitB_yes (v := v) (by omega) (by omega)
  simp [this] at h
theorem keep_above {v : Int} (h : fitB v = false) (hv : 0 ≤ v) : keep v = 9223372036854775807 := by
  unfold keep; rw [if_neg (by omega), if_pos]
  apply Classical.byContradiction; intro hn
  have := fitB_yes (v := v) (by omega) (by omega)
  simp [this] at h

/-! ### one digit of the division: q is guessed too great, and corrected -/

/-- At the loop's head: q is not below the true digit, r is what is left by the upper half of the divisor. -/
structure DigInv (v1 v0 u c q r : Int) : Prop where
  hr : r = u - q * v1
  r0 : 0 ≤ r
  r1 : r < 4294967296
  q0 : 0 ≤ q
  q1 : q < 18446744073709551616
  hq : (u * 4294967296 + c) / (v1 * 4294967296 + v0) ≤ q

/-- What is so of the parts of one digit's division. -/
structure DigCtx (v1 v0 u c : Int) : Prop where
  a1 : 2147483648 ≤ v1
  a2 : v1 < 4294967296
  b1 : 0 ≤ v0
  b2 : v0 < 4294967296
  c1 : 0 ≤ c
  c2 : c < 4294967296
  u1 : 0 ≤ u
  u2 : u < v1 * 4294967296 + v0

theorem dig_lt {v1 v0 u c : Int} (h : DigCtx v1 v0 u c) : (u * 4294967296 + c) / (v1 * 4294967296 + v0) < 4294967296 := by
  obtain ⟨a1, a2, b1, b2, c1, c2, u1, u2⟩ := h
  apply Int.ediv_lt_of_lt_mul (by omega)
  omega
theorem dig_pos {v1 v0 u c : Int} (h : DigCtx v1 v0 u c) : 0 ≤ (u * 4294967296 + c) / (v1 * 4294967296 + v0) := by
  obtain ⟨a1, a2, b1, b2, c1, c2, u1, u2⟩ := h
  exact Int.ediv_nonneg (by omega) (by omega)

theorem dig_start {v1 v0 u c : Int} (h : DigCtx v1 v0 u c) : DigInv v1 v0 u c (u / v1) (u - u / v1 * v1) := by
  obtain ⟨a1, a2, b1, b2, c1, c2, u1, u2⟩ := h
  have e := Int.mul_ediv_add_emod u v1
  have m0 := Int.emod_nonneg u (show v1 ≠ 0 by omega)
  have m1 := Int.emod_lt_of_pos u (show 0 < v1 by omega)
  have ee : u / v1 * v1 = v1 * (u / v1) := Int.mul_comm _ _
  have q0 : 0 ≤ u / v1 := Int.ediv_nonneg u1 (by omega)
  have q1 : u / v1 ≤ u := Int.ediv_le_self _ u1
  refine ⟨rfl, by omega, by omega, q0, by omega, ?_⟩
  have hlt : u < v1 * (u / v1 + 1) := by rw [Int.mul_add]; omega
  apply Int.le_of_lt_add_one
  apply Int.ediv_lt_of_lt_mul (by omega)
  have h1 : u + 1 ≤ v1 * (u / v1 + 1) := by omega
  have h2 : (u / v1 + 1) * (v1 * 4294967296 + v0) = v1 * (u / v1 + 1) * 4294967296 + (u / v1 + 1) * v0 := by
    rw [Int.mul_add, ← Int.mul_assoc, Int.mul_comm (u / v1 + 1) v1]
  have h3 : 0 ≤ (u / v1 + 1) * v0 := Int.mul_nonneg (by omega) b1
  rw [h2]; omega

/-- q * the divisor, in its halves. -/
theorem dig_mul (v1 v0 q r u : Int) (hr : r = u - q * v1) : q * (v1 * 4294967296 + v0) = (u - r) * 4294967296 + q * v0 := by
  have : q * v1 = u - r := by omega
  rw [Int.mul_add, ← Int.mul_assoc, this]

/-- q is too great: one less still is not too small. -/
theorem dig_less {v1 v0 u c q r : Int} (h : DigCtx v1 v0 u c) (i : DigInv v1 v0 u c q r) (t : 4294967296 ≤ q ∨ 4294967296 * r + c < q * v0) :
    (u * 4294967296 + c) / (v1 * 4294967296 + v0) ≤ q - 1 ∧ 1 ≤ q ∧ r + v1 = u - (q - 1) * v1 := by
  have hl := dig_lt h
  have hp := dig_pos h
  have hm := dig_mul v1 v0 q r u i.hr
  obtain ⟨a1, a2, b1, b2, c1, c2, u1, u2⟩ := h
  obtain ⟨hr, r0, r1, q0, q1, hq⟩ := i
  have key : (u * 4294967296 + c) / (v1 * 4294967296 + v0) < q := by
    rcases t with t | t
    · omega
    · apply Int.ediv_lt_of_lt_mul (by omega)
      rw [hm]; omega
  refine ⟨by omega, by omega, ?_⟩
  rw [Int.sub_mul]; omega

/-- The loop goes on. -/
theorem dig_next {v1 v0 u c q r : Int} (h : DigCtx v1 v0 u c) (i : DigInv v1 v0 u c q r) (t : 4294967296 ≤ q ∨ 4294967296 * r + c < q * v0) (hr : r + v1 < 4294967296) :
    DigInv v1 v0 u c (q - 1) (r + v1) := by
  obtain ⟨k1, k2, k3⟩ := dig_less h i t
  have := h.a1
  exact ⟨k3, by have := i.r0; omega, hr, by omega, by have := i.q1; omega, k1⟩

/-- The loop breaks: q is right. -/
theorem dig_break {v1 v0 u c q r : Int} (h : DigCtx v1 v0 u c) (i : DigInv v1 v0 u c q r) (t : 4294967296 ≤ q ∨ 4294967296 * r + c < q * v0) (hr : 4294967296 ≤ r + v1) :
    q - 1 = (u * 4294967296 + c) / (v1 * 4294967296 + v0) := by
  obtain ⟨k1, k2, k3⟩ := dig_less h i t
  have hm := dig_mul v1 v0 (q - 1) (r + v1) u k3
  obtain ⟨a1, a2, b1, b2, c1, c2, u1, u2⟩ := h
  have hq : q - 1 < 4294967296 := by
    apply Classical.byContradiction; intro hn
    have e1 : (q - 1) * v1 ≤ u - 4294967296 := by omega
    have e2 : 4294967296 * v1 ≤ (q - 1) * v1 := Int.mul_le_mul_of_nonneg_right (by omega) (by omega)
    omega
  have e3 : (q - 1) * v0 ≤ (q - 1) * 4294967296 := Int.mul_le_mul_of_nonneg_left (by omega) (by omega)
  have e4 : (q - 1) * v0 ≤ 4294967295 * 4294967296 := by
    have : (q - 1) * v0 ≤ 4294967295 * v0 := Int.mul_le_mul_of_nonneg_right (by omega) b1
    omega
  have e5 : q - 1 ≤ (u * 4294967296 + c) / (v1 * 4294967296 + v0) := by
    apply Int.le_ediv_of_mul_le (by omega)
    rw [hm]; omega
  omega

/-- The loop ends: q is right. -/
theorem dig_end {v1 v0 u c q r : Int} (h : DigCtx v1 v0 u c) (i : DigInv v1 v0 u c q r) (_t1 : q < 4294967296) (t2 : q * v0 ≤ 4294967296 * r + c) :
    q = (u * 4294967296 + c) / (v1 * 4294967296 + v0) := by
  have hm := dig_mul v1 v0 q r u i.hr
  obtain ⟨a1, a2, b1, b2, c1, c2, u1, u2⟩ := h
  have hq := i.hq
  have e5 : q ≤ (u * 4294967296 + c) / (v1 * 4294967296 + v0) := by
    apply Int.le_ediv_of_mul_le (by omega)
    rw [hm]; omega
  omega
end Go.Proofs.Ytlipbkpbflgamaa
