/- the reference's sketch: its times. -/
import Derived.Test.YtogdnacambjhpaaRsA
namespace Go.Proofs.Ytogdnacambjhpaa
open Go.RowKit
set_option linter.unusedVariables false
set_option linter.unusedSimpArgs false

def timeR (x : Int) : Bool := decide (0 ≤ x ∧ x ≤ 1152921504606846976)
set_option maxHeartbeats 800000 in
theorem r6time_any (x : Int) (w : World) : Calls Try.prog 67 #[.int .i64 x] w fun e w' => e = .returned (.bool (timeR x)) ∧ w' = w := by
  unfold timeR
  by_cases h0 : 0 ≤ x
  · by_cases h1 : x ≤ 1152921504606846976
    · rw [decide_eq_true (And.intro h0 h1)]
      go_enter Try.func67, Try.ntmps67
      go_wp2_with (fail)
      go_ret
      exact ⟨rfl, rfl⟩
    · rw [decide_eq_false (fun h => h1 h.2)]
      go_enter Try.func67, Try.ntmps67
      go_wp2_with (fail)
      go_ret
      exact ⟨rfl, rfl⟩
  · rw [decide_eq_false (fun h => h0 h.1)]
    go_enter Try.func67, Try.ntmps67
    go_wp2_with (fail)
    go_ret
    exact ⟨rfl, rfl⟩
set_option maxHeartbeats 1600000 in
theorem r6wrong_any (q : Nat) (last at_ : Int) (w : World) (q6 : w.cell? ⟨q, 6, none⟩ = some (.int .i64 last)) :
    Calls Try.prog 45 #[.pointer (some ⟨q, 0, none⟩), .int .i64 at_] w fun e w' => e = .returned (.int .i64 (lookS last at_)) ∧ w' = w := by
  have HT := Lib.hid (r6time_any at_ w)
  unfold lookS
  by_cases h0 : at_ < 0 ∨ 1152921504606846976 < at_
  · have ht : timeR at_ = false := decide_eq_false (by omega)
    rw [if_pos h0]
    rw [ht] at HT
    go_enter Try.func45, Try.ntmps45
    go_wp2_with (fail)
    refine HT.out.mono ?_
    rintro e w2 ⟨rfl, hq⟩
    have hq := hq.symm
    subst hq
    go_wp2_with (fail)
    go_ret
    exact ⟨rfl, rfl⟩
  · have ht : timeR at_ = true := decide_eq_true (by omega)
    rw [if_neg h0]
    rw [ht] at HT
    by_cases h1 : at_ < last
    · rw [if_pos h1]
      go_enter Try.func45, Try.ntmps45
      go_wp2_with (fail)
      refine HT.out.mono ?_
      rintro e w2 ⟨rfl, hq⟩
      have hq := hq.symm
      subst hq
      go_wp2_with (fail)
      go_ret
      exact ⟨rfl, rfl⟩
    · rw [if_neg h1]
      go_enter Try.func45, Try.ntmps45
      go_wp2_with (fail)
      refine HT.out.mono ?_
      rintro e w2 ⟨rfl, hq⟩
      have hq := hq.symm
      subst hq
      go_wp2_with (fail)
      go_ret
      exact ⟨rfl, rfl⟩
def inR (b B at_ t : Int) : Bool := decide (t / b ≤ at_ / b) && decide (at_ / b - B < t / b)
set_option maxHeartbeats 1600000 in
theorem r6in_any (h : ShapeS) (b : Int) (hb : ShapeOk h b) (q : Nat) (t at_ : Int) (t0 : 0 ≤ t) (t1 : t ≤ 1152921504606846976) (a0 : 0 ≤ at_) (a1 : at_ ≤ 1152921504606846976) (w : World) (q0 : w.cell? ⟨q, 0, none⟩ = some (.int .i64 h.W)) (q1 : w.cell? ⟨q, 1, none⟩ = some (.int .i64 h.B)) :
    Calls Try.prog 68 #[.pointer (some ⟨q, 0, none⟩), .int .i64 t, .int .i64 at_] w fun e w' => e = .returned (.bool (inR b h.B at_ t)) ∧ ∃ m, w' = w.drewN m := by
  obtain ⟨W1, W2, B1, B2, R1, R2, C1, C2, bW, b1, s0, s1⟩ := hb
  obtain ⟨W, B, R, CC, seed⟩ := h
  dsimp only at *
  unfold inR
  obtain ⟨T, hT⟩ : ∃ T, t / b = T := ⟨_, rfl⟩
  obtain ⟨A, hA⟩ : ∃ A, at_ / b = A := ⟨_, rfl⟩
  obtain ⟨D, hD⟩ : ∃ D, A - B = D := ⟨_, rfl⟩
  have T0 : 0 ≤ T := by rw [← hT]; exact Int.ediv_nonneg t0 (by omega)
  have T1 : T ≤ t := by rw [← hT]; exact Int.ediv_le_self _ t0
  have A0 : 0 ≤ A := by rw [← hA]; exact Int.ediv_nonneg a0 (by omega)
  have A1 : A ≤ at_ := by rw [← hA]; exact Int.ediv_le_self _ a0
  have hb1 : W / B = b := by rw [bW]; exact Int.mul_ediv_cancel _ (by omega)
  have hbW : b ≤ W := by rw [← hb1]; exact Int.ediv_le_self _ (by omega)
  have e1 : IntKind.i64.wrap (W.tdiv B) = b := by rw [Int.tdiv_eq_ediv_of_nonneg (by omega), hb1]; exact IntWalk.i64_in _ (by omega)
  have e2 : IntKind.i64.wrap (t.tdiv b) = T := by rw [Int.tdiv_eq_ediv_of_nonneg t0, hT]; exact IntWalk.i64_in _ (by omega)
  have e3 : IntKind.i64.wrap (at_.tdiv b) = A := by rw [Int.tdiv_eq_ediv_of_nonneg a0, hA]; exact IntWalk.i64_in _ (by omega)
  have e4 : IntKind.i64.wrap (A - B) = D := by rw [hD]; exact IntWalk.i64_in _ (by omega)
  have n1 : (B == 0) = false := by rw [beq_eq_false_iff_ne]; omega
  have n2 : (b == 0) = false := by rw [beq_eq_false_iff_ne]; omega
  rw [hT, hA, hD]
  clear hT hA hb1 bW
  by_cases h1 : T ≤ A
  · have d1 : decide (T ≤ A) = true := decide_eq_true h1
    rw [d1]
    by_cases h2 : D < T
    · have d2 : decide (D < T) = true := decide_eq_true h2
      rw [d2]
      go_enter Try.func68, Try.ntmps68
      go_wp2_with (fail)
      go_quiet (fail)
      have HB2 := Lib.hid (show ∃ m, w.drewN nq = w.drewN m from ⟨nq, rfl⟩)
      have q1 : (w.drewN nq).cell? ⟨q, 1, none⟩ = some (.int .i64 B) := q1
      have q0 : (w.drewN nq).cell? ⟨q, 0, none⟩ = some (.int .i64 W) := q0
      generalize w.drewN nq = w2 at *
      go_wp2_with (fail)
      go_quiet (fail)
      go_wp2_with (fail)
      go_ret
      exact ⟨rfl, by obtain ⟨m, hm⟩ := HB2.out; exact ⟨m + nq, by rw [hm, World.drewN_drewN]⟩⟩
    · have d2 : decide (D < T) = false := decide_eq_false h2
      rw [d2]
      go_enter Try.func68, Try.ntmps68
      go_wp2_with (fail)
      go_quiet (fail)
      have HB2 := Lib.hid (show ∃ m, w.drewN nq = w.drewN m from ⟨nq, rfl⟩)
      have q1 : (w.drewN nq).cell? ⟨q, 1, none⟩ = some (.int .i64 B) := q1
      have q0 : (w.drewN nq).cell? ⟨q, 0, none⟩ = some (.int .i64 W) := q0
      generalize w.drewN nq = w2 at *
      go_wp2_with (fail)
      go_quiet (fail)
      go_wp2_with (fail)
      go_ret
      exact ⟨rfl, by obtain ⟨m, hm⟩ := HB2.out; exact ⟨m + nq, by rw [hm, World.drewN_drewN]⟩⟩
  · have d1 : decide (T ≤ A) = false := decide_eq_false h1
    rw [d1]
    go_enter Try.func68, Try.ntmps68
    go_wp2_with (fail)
    go_quiet (fail)
    have HB2 := Lib.hid (show ∃ m, w.drewN nq = w.drewN m from ⟨nq, rfl⟩)
    have q1 : (w.drewN nq).cell? ⟨q, 1, none⟩ = some (.int .i64 B) := q1
    have q0 : (w.drewN nq).cell? ⟨q, 0, none⟩ = some (.int .i64 W) := q0
    generalize w.drewN nq = w2 at *
    go_wp2_with (fail)
    go_quiet (fail)
    go_wp2_with (fail)
    go_ret
    exact ⟨rfl, by obtain ⟨m, hm⟩ := HB2.out; exact ⟨m + nq, by rw [hm, World.drewN_drewN]⟩⟩
end Go.Proofs.Ytogdnacambjhpaa
