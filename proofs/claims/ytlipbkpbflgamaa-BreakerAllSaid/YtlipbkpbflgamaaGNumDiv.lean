/- Texts of one chain, one behind the other: NumDiv, NumWalks, NumWide. -/
import Derived.WalkKit
import Derived.WalkSpells
import Derived.WalkLawsBesides
import Derived.BigQuiet
import Derived.Deep.QuietTactic
import Derived.Deep.DeepCutAuto
import Derived.Deep.CutBlock
import Derived.Lib.Hide
import Derived.Test.YtlipbkpbflgamaaShelf
import Derived.Test.YtlipbkpbflgamaaNumDivMath

/- math/bits.Div64: the quotient and the remainder of 128 bits by 64, where the quotient has 64 bits. -/
namespace Go.Proofs.Ytlipbkpbflgamaa
open Go.RowKit
set_option linter.unusedVariables false

theorem ret_uu {a b c d : Int} (h : a = b) (h' : c = d) : Ending.returned (.tuple #[.int .u64 a, .int .u64 c]) = .returned (.tuple #[.int .u64 b, .int .u64 d]) := by rw [h, h']

end Go.Proofs.Ytlipbkpbflgamaa

/- The leaves of the layer num: size, told, Add, Sub, Within, edge, product, narrow: what each call returns; nothing that was there turns. -/
namespace Go.Proofs.Ytlipbkpbflgamaa
open Go.RowKit
set_option linter.unusedVariables false

theorem ret_int {k : IntKind} {a b : Int} (h : a = b) : Ending.returned (.int k a) = .returned (.int k b) := by rw [h]
theorem ret_ib {k : IntKind} {a b : Int} {c d : Bool} (h : a = b) (h' : c = d) : Ending.returned (.tuple #[.int k a, .bool c]) = .returned (.tuple #[.int k b, .bool d]) := by rw [h, h']
theorem ret_ii {k k' : IntKind} {a b c d : Int} (h : a = b) (h' : c = d) : Ending.returned (.tuple #[.int k a, .int k' c]) = .returned (.tuple #[.int k b, .int k' d]) := by rw [h, h']

theorem size_any (n : Int) (w : World) (h0 : -9223372036854775808 ≤ n) (h1 : n ≤ 9223372036854775807) :
    Calls Try.prog 80 #[.int .i64 n] w fun e w' => e = .returned (.int .u64 ((n.natAbs : Nat) : Int)) ∧ w = w' := by
  by_cases h : n < 0
  · go_enter Try.func80, Try.ntmps80
    go_wp2
    go_ret
    exact ⟨ret_int (by simp only [IntKind.wrap_u64]; omega), rfl⟩
  · go_enter Try.func80, Try.ntmps80
    go_wp2
    go_ret
    exact ⟨ret_int (by omega), rfl⟩

theorem edge_any (b : Bool) (w : World) :
    Calls Try.prog 74 #[.bool b] w fun e w' => e = .returned (.int .i64 (edgeV b)) ∧ w = w' := by
  cases b
  all_goals
    go_enter Try.func74, Try.ntmps74
    go_wp2
    go_ret
    exact ⟨ret_int (by simp [edgeV]), rfl⟩

set_option maxHeartbeats 400000 in
theorem narrow_any (hi lo : Int) (b : Bool) (w : World) (h0 : 0 ≤ hi) (h1 : hi < 18446744073709551616) (h2 : 0 ≤ lo) (h3 : lo < 18446744073709551616) :
    Calls Try.prog 73 #[.agg #[.int .u64 hi, .int .u64 lo, .bool b]] w fun e w' => e = .returned (.tuple #[.int .i64 (fitN (sgn b (hi * 18446744073709551616 + lo))), .bool (fitB (sgn b (hi * 18446744073709551616 + lo)))]) ∧ Below w.heap.size w w' := by
  have key : ∀ (x : Int) (c : Bool), (x = fitN (sgn b (hi * 18446744073709551616 + lo)) ∧ c = fitB (sgn b (hi * 18446744073709551616 + lo))) → Ending.returned (.tuple #[.int .i64 x, .bool c]) = .returned (.tuple #[.int .i64 (fitN (sgn b (hi * 18446744073709551616 + lo))), .bool (fitB (sgn b (hi * 18446744073709551616 + lo)))]) := fun x c h => ret_ib h.1 h.2
  by_cases z : hi = 0
  · subst z
    by_cases z1 : lo < 9223372036854775808
    · cases b
      all_goals
        go_enter Try.func73, Try.ntmps73
        go_wp2
        go_ret2
        refine ⟨ret_ib ?_ ?_, (Below.refl _ _).alloc (Nat.le_refl _) _⟩
      · rw [fitN_yes (fitB_yes (by simp [sgn]; omega) (by simp [sgn]; omega))]; simp [sgn]
      · rw [fitB_yes (by simp [sgn]; omega) (by simp [sgn]; omega)]
      · rw [fitN_yes (fitB_yes (by simp [sgn]; omega) (by simp [sgn]; omega))]; simp [sgn]
      · rw [fitB_yes (by simp [sgn]; omega) (by simp [sgn]; omega)]
    · by_cases z2 : lo = 9223372036854775808
      · subst z2
        cases b
        all_goals
          go_enter Try.func73, Try.ntmps73
          go_wp2
          go_ret2
          exact ⟨by simp [fitN, fitB, sgn], (Below.refl _ _).alloc (Nat.le_refl _) _⟩
      · go_enter Try.func73, Try.ntmps73
        go_wp2
        go_ret2
        have hf : fitB (sgn b (0 * 18446744073709551616 + lo)) = false := fitB_no (by cases b <;> simp [sgn] <;> omega)
        exact ⟨ret_ib (by rw [fitN_no hf]) (by rw [hf]), (Below.refl _ _).alloc (Nat.le_refl _) _⟩
  · go_enter Try.func73, Try.ntmps73
    go_wp2
    go_ret2
    have hf : fitB (sgn b (hi * 18446744073709551616 + lo)) = false := fitB_no (by cases b <;> simp [sgn] <;> omega)
    exact ⟨ret_ib (by rw [fitN_no hf]) (by rw [hf]), (Below.refl _ _).alloc (Nat.le_refl _) _⟩
end Go.Proofs.Ytlipbkpbflgamaa

/- The layer num, numbers of 128 bits: product, by, Mul, MulDiv, Div, Share, Times: what each call returns; nothing that was there turns. -/
namespace Go.Proofs.Ytlipbkpbflgamaa
open Go.RowKit
set_option linter.unusedVariables false

theorem bcell {W w1 : World} (hb : Below W.heap.size W w1) : (∀ b o, b < W.heap.size → w1.cell? ⟨b, o, none⟩ = W.cell? ⟨b, o, none⟩) ∧ (∀ b o, b < W.heap.size → w1.frozen? ⟨b, o, none⟩ = W.frozen? ⟨b, o, none⟩) :=
  ⟨fun b o h => hb.cell (p := ⟨b, o, none⟩) h, fun b o h => hb.frozen (p := ⟨b, o, none⟩) h⟩

/-- A number of 128 bits came back: its words, and whether it is below 0. -/
def WideOf (v : Int) (w : World) (e : Ending) (w' : World) : Prop :=
  ∃ (hi lo : Int) (b : Bool), e = .returned (.agg #[.int .u64 hi, .int .u64 lo, .bool b]) ∧ 0 ≤ hi ∧ hi < 18446744073709551616 ∧ 0 ≤ lo ∧ lo < 18446744073709551616 ∧ sgn b (hi * 18446744073709551616 + lo) = v ∧ b = decide (v < 0) ∧ Below w.heap.size w w'

theorem prod_bound (a b : Int) (a0 : -9223372036854775808 ≤ a) (a1 : a ≤ 9223372036854775807) (b0 : -9223372036854775808 ≤ b) (b1 : b ≤ 9223372036854775807) :
    a.natAbs * b.natAbs ≤ 9223372036854775808 * 9223372036854775808 := Nat.mul_le_mul (by omega) (by omega)

theorem or_zero (h l : Nat) (hh : h < 18446744073709551616) (hl : l < 18446744073709551616) : bits .or .u64 (h : Int) (l : Int) = 0 ↔ h = 0 ∧ l = 0 := by
  rw [u64_or_nat h l hh hl]
  have : (((h ||| l : Nat) : Int) = 0) ↔ (h ||| l) = 0 := by omega
  rw [this, Nat.or_eq_zero_iff]

set_option maxHeartbeats 800000 in
theorem product_any (a b : Int) (w : World) (a0 : -9223372036854775808 ≤ a) (a1 : a ≤ 9223372036854775807) (b0 : -9223372036854775808 ≤ b) (b1 : b ≤ 9223372036854775807) :
    Calls Try.prog 72 #[.int .i64 a, .int .i64 b] w (WideOf (a * b) w) := by
  have hM := prod_bound a b a0 a1 b0 b1
  have hc := Try.bits_Mul64 a.natAbs b.natAbs (by omega) (by omega)
  have hmul : ((a * b).natAbs : Int) = ((a.natAbs * b.natAbs : Nat) : Int) := by rw [Int.natAbs_mul]
  obtain ⟨M, hMe⟩ : ∃ M : Nat, a.natAbs * b.natAbs = M := ⟨_, rfl⟩
  rw [hMe] at hM hc hmul
  obtain ⟨H, hH⟩ : ∃ H : Nat, M / 18446744073709551616 = H := ⟨_, rfl⟩
  obtain ⟨L, hL⟩ : ∃ L : Nat, M % 18446744073709551616 = L := ⟨_, rfl⟩
  have hHL : M = H * 18446744073709551616 + L := by omega
  have hz := or_zero H L (by omega) (by omega)
  obtain ⟨Z, hZ⟩ : ∃ Z : Int, bits .or .u64 (H : Int) (L : Int) = Z := ⟨_, rfl⟩
  rw [hZ] at hz
  have hab : a * b < 0 ↔ ((a < 0 ∧ 0 < b) ∨ (0 < a ∧ b < 0)) := by
    constructor
    · intro h
      rcases Int.lt_trichotomy a 0 with h1 | h1 | h1 <;> rcases Int.lt_trichotomy b 0 with h2 | h2 | h2
      · have := Int.mul_pos_of_neg_of_neg h1 h2; omega
      · subst h2; simp at h
      · exact Or.inl ⟨h1, h2⟩
      · subst h1; simp at h
      · subst h1; simp at h
      · subst h1; simp at h
      · exact Or.inr ⟨h1, h2⟩
      · subst h2; simp at h
      · have := Int.mul_pos h1 h2; omega
    · rintro (⟨h1, h2⟩ | ⟨h1, h2⟩)
      · exact Int.mul_neg_of_neg_of_pos h1 h2
      · exact Int.mul_neg_of_pos_of_neg h1 h2
  have hab0 : a * b = 0 ↔ (a = 0 ∨ b = 0) := Int.mul_eq_zero
  have hsg : sgn (decide (a * b < 0)) (M : Int) = a * b := by
    unfold sgn
    by_cases h : a * b < 0
    · simp [h]; omega
    · simp [h]; omega
  have hMz : (M : Int) = 0 ↔ a * b = 0 := by omega
  have fin : ∀ (w' : World) (x : Bool), x = decide (a * b < 0) → Below w.heap.size w w' → WideOf (a * b) w (.returned (.agg #[.int .u64 H, .int .u64 L, .bool x])) w' := by
    intro w' x hx hb
    refine ⟨H, L, x, rfl, by omega, by omega, by omega, by omega, ?_, hx, hb⟩
    rw [hx]
    have : ((H : Int) * 18446744073709551616 + (L : Int)) = (M : Int) := by omega
    rw [this]; exact hsg
  simp only [hH, hL] at hc
  have Hc := Lib.hid hc
  clear hc
  have HH := Lib.hid hH
  have HL := Lib.hid hL
  have Hmul := Lib.hid hmul
  have hZc : ∀ zz : Bool, (zz = true ↔ (a * b ≠ 0)) → (Z != 0) = zz := by
    intro zz h
    cases zz
    · have : a * b = 0 := by
        apply Classical.byContradiction; intro hn; have := h.2 hn; simp at this
      have : Z = 0 := hz.2 (by omega)
      simp [this]
    · have h1 := h.1 rfl
      have : Z ≠ 0 := by
        intro e
        have := hz.1 e
        omega
      simpa using this
  have sides : (a < 0 ∧ b < 0 ∧ a * b ≠ 0 ∧ ¬ a * b < 0) ∨ (a < 0 ∧ ¬ b < 0 ∧ a * b ≠ 0 ∧ a * b < 0) ∨ (a < 0 ∧ ¬ b < 0 ∧ a * b = 0) ∨ (¬ a < 0 ∧ b < 0 ∧ a * b ≠ 0 ∧ a * b < 0) ∨ (¬ a < 0 ∧ b < 0 ∧ a * b = 0) ∨ (¬ a < 0 ∧ ¬ b < 0 ∧ ¬ a * b < 0) := by
    by_cases p : a * b = 0
    · have := hab0.1 p
      by_cases h1 : a < 0 <;> by_cases h2 : b < 0 <;> simp [p, h1, h2] <;> omega
    · have hn : ¬ (a = 0 ∨ b = 0) := fun h => p (hab0.2 h)
      by_cases h1 : a < 0 <;> by_cases h2 : b < 0 <;> simp [p, h1, h2, hab] <;> omega
  clear hH hL hmul hHL hsg hMe hMz hz hab hab0
  rcases sides with ⟨h1, h2, h3, h4⟩ | ⟨h1, h2, h3, h4⟩ | ⟨h1, h2, h3⟩ | ⟨h1, h2, h3, h4⟩ | ⟨h1, h2, h3⟩ | ⟨h1, h2, h4⟩
  · have f := Lib.hid (fun w' => fin w' false (by simp [h4]))
    clear fin hZc hM
    go_enter Try.func72, Try.ntmps72
    go_wp2_with (first | (go_at_call 80; refine (size_any _ _ (by omega) (by omega)).mono ?_; rintro e w' ⟨rfl, rfl⟩) | (go_at_call 79; refine (Hc.out _).mono ?_; rintro e w' ⟨rfl, rfl⟩))
    exact bodyPost_ret (v := .agg #[.int .u64 H, .int .u64 L, .bool false]) (by simp [results, Try.results72, go_sem] <;> assumption) rfl (f.out _ (by repeat (first | exact Below.refl _ _ | apply Below.alloc | apply Below.setCell | simp)))
  · have f := Lib.hid (fun w' => fin w' true (by simp [h4]))
    have hz0 := hZc true (by simp [h3])
    clear fin hZc hM
    go_enter Try.func72, Try.ntmps72
    go_wp2_with (first | (go_at_call 80; refine (size_any _ _ (by omega) (by omega)).mono ?_; rintro e w' ⟨rfl, rfl⟩) | (go_at_call 79; refine (Hc.out _).mono ?_; rintro e w' ⟨rfl, rfl⟩))
    exact bodyPost_ret (v := .agg #[.int .u64 H, .int .u64 L, .bool true]) (by simp [results, Try.results72, go_sem] <;> assumption) rfl (f.out _ (by repeat (first | exact Below.refl _ _ | apply Below.alloc | apply Below.setCell | simp)))
  · have f := Lib.hid (fun w' => fin w' false (by simp [h3]))
    have hz0 := hZc false (by simp [h3])
    clear fin hZc hM
    go_enter Try.func72, Try.ntmps72
    go_wp2_with (first | (go_at_call 80; refine (size_any _ _ (by omega) (by omega)).mono ?_; rintro e w' ⟨rfl, rfl⟩) | (go_at_call 79; refine (Hc.out _).mono ?_; rintro e w' ⟨rfl, rfl⟩))
    exact bodyPost_ret (v := .agg #[.int .u64 H, .int .u64 L, .bool false]) (by simp [results, Try.results72, go_sem] <;> assumption) rfl (f.out _ (by repeat (first | exact Below.refl _ _ | apply Below.alloc | apply Below.setCell | simp)))
  · have f := Lib.hid (fun w' => fin w' true (by simp [h4]))
    have hz0 := hZc true (by simp [h3])
    clear fin hZc hM
    go_enter Try.func72, Try.ntmps72
    go_wp2_with (first | (go_at_call 80; refine (size_any _ _ (by omega) (by omega)).mono ?_; rintro e w' ⟨rfl, rfl⟩) | (go_at_call 79; refine (Hc.out _).mono ?_; rintro e w' ⟨rfl, rfl⟩))
    exact bodyPost_ret (v := .agg #[.int .u64 H, .int .u64 L, .bool true]) (by simp [results, Try.results72, go_sem] <;> assumption) rfl (f.out _ (by repeat (first | exact Below.refl _ _ | apply Below.alloc | apply Below.setCell | simp)))
  · have f := Lib.hid (fun w' => fin w' false (by simp [h3]))
    have hz0 := hZc false (by simp [h3])
    clear fin hZc hM
    go_enter Try.func72, Try.ntmps72
    go_wp2_with (first | (go_at_call 80; refine (size_any _ _ (by omega) (by omega)).mono ?_; rintro e w' ⟨rfl, rfl⟩) | (go_at_call 79; refine (Hc.out _).mono ?_; rintro e w' ⟨rfl, rfl⟩))
    exact bodyPost_ret (v := .agg #[.int .u64 H, .int .u64 L, .bool false]) (by simp [results, Try.results72, go_sem] <;> assumption) rfl (f.out _ (by repeat (first | exact Below.refl _ _ | apply Below.alloc | apply Below.setCell | simp)))
  · have f := Lib.hid (fun w' => fin w' false (by simp [h4]))
    clear fin hZc hM
    go_enter Try.func72, Try.ntmps72
    go_wp2_with (first | (go_at_call 80; refine (size_any _ _ (by omega) (by omega)).mono ?_; rintro e w' ⟨rfl, rfl⟩) | (go_at_call 79; refine (Hc.out _).mono ?_; rintro e w' ⟨rfl, rfl⟩))
    exact bodyPost_ret (v := .agg #[.int .u64 H, .int .u64 L, .bool false]) (by simp [results, Try.results72, go_sem] <;> assumption) rfl (f.out _ (by repeat (first | exact Below.refl _ _ | apply Below.alloc | apply Below.setCell | simp)))

end Go.Proofs.Ytlipbkpbflgamaa
