/- The leaves of the layer num: size, told, Add, Sub, Within, edge, product, narrow: what each call returns; nothing that was there turns. -/
import Derived.Test.YteghiappanpogaaNumDiv
namespace Go.Proofs.Yteghiappanpogaa
open Go.RowKit
set_option linter.unusedVariables false

theorem ret_int {k : IntKind} {a b : Int} (h : a = b) : Ending.returned (.int k a) = .returned (.int k b) := by rw [h]
theorem ret_ib {k : IntKind} {a b : Int} {c d : Bool} (h : a = b) (h' : c = d) : Ending.returned (.tuple #[.int k a, .bool c]) = .returned (.tuple #[.int k b, .bool d]) := by rw [h, h']
theorem ret_ii {k k' : IntKind} {a b c d : Int} (h : a = b) (h' : c = d) : Ending.returned (.tuple #[.int k a, .int k' c]) = .returned (.tuple #[.int k b, .int k' d]) := by rw [h, h']

theorem div64_any (hi lo y : Int) (w : World) (h0 : 0 ≤ hi) (h1 : hi < y) (h2 : 0 ≤ lo) (h3 : lo < 18446744073709551616) (h5 : y < 18446744073709551616) :
    Calls Try.prog 58 #[.int .u64 hi, .int .u64 lo, .int .u64 y] w fun e w' => e = .returned (.tuple #[.int .u64 ((hi * 18446744073709551616 + lo) / y), .int .u64 ((hi * 18446744073709551616 + lo) % y)]) ∧ ∃ m, w' = w.drewN m := by
  by_cases h : hi = 0
  · subst h
    have := div64_zero lo y w h2 h3 (by omega) h5
    refine this.mono ?_
    rintro e w' ⟨rfl, hw⟩
    exact ⟨ret_uu (by simp) (by simp), hw⟩
  · exact div64_big hi lo y w (by omega) h1 h2 h3 h5

theorem size_any (n : Int) (w : World) (h0 : -9223372036854775808 ≤ n) (h1 : n ≤ 9223372036854775807) :
    Calls Try.prog 56 #[.int .i64 n] w fun e w' => e = .returned (.int .u64 ((n.natAbs : Nat) : Int)) ∧ w = w' := by
  by_cases h : n < 0
  · go_enter Try.func56, Try.ntmps56
    go_wp2
    go_ret
    exact ⟨ret_int (by simp only [IntKind.wrap_u64]; omega), rfl⟩
  · go_enter Try.func56, Try.ntmps56
    go_wp2
    go_ret
    exact ⟨ret_int (by omega), rfl⟩

theorem told_any (n : Int) (ok : Bool) (w : World) :
    Calls Try.prog 53 #[.int .i64 n, .bool ok] w fun e w' => e = .returned (.tuple #[.int .i64 (if ok then n else 0), .int .i64 (if ok then 0 else 8)]) ∧ w = w' := by
  cases ok
  all_goals
    go_enter Try.func53, Try.ntmps53
    go_wp2
    go_ret2
    exact ⟨by simp, rfl⟩

theorem edge_any (b : Bool) (w : World) :
    Calls Try.prog 45 #[.bool b] w fun e w' => e = .returned (.int .i64 (edgeV b)) ∧ w = w' := by
  cases b
  all_goals
    go_enter Try.func45, Try.ntmps45
    go_wp2
    go_ret
    exact ⟨ret_int (by simp [edgeV]), rfl⟩

theorem add_any (a b : Int) (w : World) (a0 : -9223372036854775808 ≤ a) (a1 : a ≤ 9223372036854775807) (b0 : -9223372036854775808 ≤ b) (b1 : b ≤ 9223372036854775807) :
    Calls Try.prog 44 #[.int .i64 a, .int .i64 b] w fun e w' => e = .returned (.tuple #[.int .i64 (fitN (a + b)), .int .i64 (fitE (a + b))]) ∧ w = w' := by
  obtain ⟨v, hv⟩ : ∃ v : Int, a + b = v := ⟨_, rfl⟩
  rw [hv]
  cases hf : fitB v with
  | true =>
    obtain ⟨f0, f1⟩ := (fitB_iff v).1 hf
    have e1 := Lib.hid (fitN_yes hf)
    have e2 := Lib.hid (fitE_yes hf)
    have hw : wrap64 v = v := IntWalk.wrap64_in _ (by omega)
    have ho := Lib.hid hv
    by_cases ha : a < 0 <;> by_cases hb : b < 0 <;> by_cases hs : v < 0 <;> first | (exfalso; omega) | skip
    all_goals
      clear hf
      go_enter Try.func44, Try.ntmps44
      go_wp2_with (fail)
      refine (told_any _ _ _).mono ?_
      rintro e w' ⟨rfl, rfl⟩
      go_wp2_with (fail)
      go_ret2
      exact ⟨ret_ii (by rw [e1.out]) (by rw [e2.out]), rfl⟩
  | false =>
    have e1 := Lib.hid (fitN_no hf)
    have e2 := Lib.hid (fitE_no hf)
    have hn : v < -9223372036854775808 ∨ 9223372036854775807 < v := by
      apply Classical.byContradiction; intro hn
      have := fitB_yes (v := v) (by omega) (by omega)
      simp [this] at hf
    obtain ⟨t, ht⟩ : ∃ t, wrap64 v = t := ⟨_, rfl⟩
    have ht' : wrap64 v = (v + 9223372036854775808) % 18446744073709551616 - 9223372036854775808 := by unfold wrap64; rfl
    by_cases ha : a < 0 <;> by_cases hb : b < 0 <;> by_cases hs : t < 0 <;> first | (exfalso; omega) | skip
    all_goals
      clear hf hn ht'
      go_enter Try.func44, Try.ntmps44
      go_wp2_with (fail)
      refine (told_any _ _ _).mono ?_
      rintro e w' ⟨rfl, rfl⟩
      go_wp2_with (fail)
      go_ret2
      exact ⟨ret_ii (by rw [e1.out]) (by rw [e2.out]), rfl⟩

set_option maxHeartbeats 400000 in
theorem narrow_any (hi lo : Int) (b : Bool) (w : World) (h0 : 0 ≤ hi) (h1 : hi < 18446744073709551616) (h2 : 0 ≤ lo) (h3 : lo < 18446744073709551616) :
    Calls Try.prog 49 #[.agg #[.int .u64 hi, .int .u64 lo, .bool b]] w fun e w' => e = .returned (.tuple #[.int .i64 (fitN (sgn b (hi * 18446744073709551616 + lo))), .bool (fitB (sgn b (hi * 18446744073709551616 + lo)))]) ∧ Below w.heap.size w w' := by
  have key : ∀ (x : Int) (c : Bool), (x = fitN (sgn b (hi * 18446744073709551616 + lo)) ∧ c = fitB (sgn b (hi * 18446744073709551616 + lo))) → Ending.returned (.tuple #[.int .i64 x, .bool c]) = .returned (.tuple #[.int .i64 (fitN (sgn b (hi * 18446744073709551616 + lo))), .bool (fitB (sgn b (hi * 18446744073709551616 + lo)))]) := fun x c h => ret_ib h.1 h.2
  by_cases z : hi = 0
  · subst z
    by_cases z1 : lo < 9223372036854775808
    · cases b
      all_goals
        go_enter Try.func49, Try.ntmps49
        go_wp2
        go_ret2
        refine ⟨ret_ib ?_ ?_, (Below.refl _ _).alloc (Nat.le_refl _) _⟩
      · rw [fitN_yes (fitB_yes (by simp [sgn]; omega) (by simp [sgn]; omega))]; simp [sgn]
      · rw [fitB_yes (by simp [sgn]; omega) (by simp [sgn]; omega)]
      · rw [fitN_yes (fitB_yes (by simp [sgn]; omega) (by simp [sgn]; omega))]; simp [sgn]
      · rw [fitB_yes (by simp [sgn]; omega) (by simp [sgn]; omega)]
    · by_cases z2 : lo = 9223372036854775808
      · subst z2
        cases b
        all_goals
          go_enter Try.func49, Try.ntmps49
          go_wp2
          go_ret2
          exact ⟨by simp [fitN, fitB, sgn], (Below.refl _ _).alloc (Nat.le_refl _) _⟩
      · go_enter Try.func49, Try.ntmps49
        go_wp2
        go_ret2
        have hf : fitB (sgn b (0 * 18446744073709551616 + lo)) = false := fitB_no (by cases b <;> simp [sgn] <;> omega)
        exact ⟨ret_ib (by rw [fitN_no hf]) (by rw [hf]), (Below.refl _ _).alloc (Nat.le_refl _) _⟩
  · go_enter Try.func49, Try.ntmps49
    go_wp2
    go_ret2
    have hf : fitB (sgn b (hi * 18446744073709551616 + lo)) = false := fitB_no (by cases b <;> simp [sgn] <;> omega)
    exact ⟨ret_ib (by rw [fitN_no hf]) (by rw [hf]), (Below.refl _ _).alloc (Nat.le_refl _) _⟩
end Go.Proofs.Yteghiappanpogaa
