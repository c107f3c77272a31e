/- The laws of the layer warmup: WarmWarms: the plain law. -/
import Derived.Test.YtfcmacibblkdkaaWarmD
namespace Go.Proofs.Ytfcmacibblkdkaa
open Go.RowKit
set_option linter.unusedVariables false
set_option linter.unusedSimpArgs false

/-- After k fills, one a second, as much as it lets: still cold. -/
def ColdAt (s : WarmS) (k : Int) : Prop :=
  (allOf s < 4 * (s.tokens - warnOf s) ∧ 2 * (s.tokens - warnOf s) + 2 * (k * (s.count / 3)) ≤ allOf s) ∨
  (4 * (s.tokens - warnOf s) ≤ allOf s ∧ ∃ j, 4 * ((j - 1) * (s.count / 3)) < allOf s ∧ 4 * (s.tokens - warnOf s) + 4 * ((k - j) * (s.count / 2)) ≤ allOf s)

/-- It cannot be cold for long. -/
theorem cold_short {s : WarmS} (h : WarmOk s) (h3 : 3 ≤ s.count) {k : Int} (hw : warnOf s ≤ s.tokens) (hc : ColdAt s k) : k ≤ 2 * s.seconds := by
  have a1 : 1 ≤ s.count / 3 := by omega
  have b1 : 1 ≤ s.count / 2 := by omega
  have c1 : s.count ≤ 3 * (s.count / 3) + 2 := by omega
  have c2 : s.count ≤ 2 * (s.count / 2) + 1 := by omega
  have hs := h.s1
  have hA : allOf s = s.seconds * s.count := rfl
  unfold ColdAt at hc
  generalize s.count / 3 = a at *
  generalize s.count / 2 = b at *
  generalize s.count = c at *
  generalize s.seconds = S at *
  rcases hc with ⟨_, h2⟩ | ⟨_, j, h2, h3⟩
  · -- 2ka ≤ Sc ≤ S(3a+2) ≤ 5Sa
    have m1 : S * c ≤ S * (3 * a + 2) := Int.mul_le_mul_of_nonneg_left c1 (by omega)
    have m2 : S * (3 * a + 2) ≤ S * (5 * a) := Int.mul_le_mul_of_nonneg_left (by omega) (by omega)
    have e1 : S * (5 * a) = (5 * S) * a := by rw [← Int.mul_assoc, Int.mul_comm S 5]
    rw [e1] at m2
    apply Classical.byContradiction; intro hn
    -- k ≥ 2S+1; but this arm also has 4x > all: 4ka ≤ all needs more
    have hx : allOf s < 4 * (s.tokens - warnOf s) := by assumption
    have hk2 : 4 * (k * a) < allOf s := by omega
    have m3 : (2 * S + 1) * a ≤ k * a := Int.mul_le_mul_of_nonneg_right (by omega) (by omega)
    have e2 : (2 * S + 1) * a = 2 * (S * a) + a := by rw [Int.add_mul, Int.mul_assoc, Int.one_mul]
    have e3 : (5 * S) * a = 5 * (S * a) := by rw [Int.mul_assoc]
    omega
  · apply Classical.byContradiction; intro hn
    -- 4(j-1)a < A; 4(k-j)b ≤ A; so 4(k-1)ab < A(a+b) = S c (a+b) ≤ 8 S a b
    have h3' : 4 * ((k - j) * b) ≤ S * c := by omega
    have h2' : 4 * ((j - 1) * a) < S * c := by omega
    have m1 : 4 * ((k - j) * b) * a ≤ S * c * a := Int.mul_le_mul_of_nonneg_right h3' (by omega)
    have m2 : 4 * ((j - 1) * a) * b < S * c * b := Int.mul_lt_mul_of_pos_right h2' (by omega)
    have ab : 0 < a * b := Int.mul_pos (by omega) (by omega)
    -- c(a+b) ≤ 8ab
    have p1 : c * a ≤ (2 * b + 1) * a := Int.mul_le_mul_of_nonneg_right c2 (by omega)
    have p2 : c * b ≤ (3 * a + 2) * b := Int.mul_le_mul_of_nonneg_right c1 (by omega)
    have p3 : a * 1 ≤ a * b := Int.mul_le_mul_of_nonneg_left b1 (by omega)
    have p4 : 1 * b ≤ a * b := Int.mul_le_mul_of_nonneg_right a1 (by omega)
    have q1 : (2 * b + 1) * a = 2 * (a * b) + a := by rw [Int.add_mul, Int.mul_assoc, Int.mul_comm b a, Int.one_mul]
    have q2 : (3 * a + 2) * b = 3 * (a * b) + 2 * b := by rw [Int.add_mul, Int.mul_assoc]
    have p5 : c * a + c * b ≤ 8 * (a * b) := by omega
    have p6 : S * (c * a + c * b) ≤ S * (8 * (a * b)) := Int.mul_le_mul_of_nonneg_left p5 (by omega)
    have q3 : S * (c * a + c * b) = S * c * a + S * c * b := by rw [Int.mul_add, Int.mul_assoc, Int.mul_assoc]
    have q4 : S * (8 * (a * b)) = 8 * (S * (a * b)) := by rw [Int.mul_left_comm]
    have q5 : 4 * ((k - j) * b) * a = 4 * ((k - j) * (a * b)) := by rw [Int.mul_assoc, Int.mul_assoc, Int.mul_comm b a]
    have q6 : 4 * ((j - 1) * a) * b = 4 * ((j - 1) * (a * b)) := by rw [Int.mul_assoc, Int.mul_assoc]
    have q7 : (k - j) * (a * b) + (j - 1) * (a * b) = (k - 1) * (a * b) := by rw [← Int.add_mul]; congr 1; omega
    have p7 : 2 * S * (a * b) ≤ (k - 1) * (a * b) := Int.mul_le_mul_of_nonneg_right (by omega) (by omega)
    have q8 : 2 * S * (a * b) = 2 * (S * (a * b)) := by rw [Int.mul_assoc]
    omega

/-- A fill a second later. -/
theorem warm_step {s : WarmS} (h : WarmOk s) (h3 : 3 ≤ s.count) {k : Int} (h0 : 0 ≤ k) (hf : s.filled = k * 1000000) :
    fillN s ((k + 1) * 1000000) (rateN s s.tokens) = if s.tokens < warnOf s then max (comeN s 1 - s.count) 0 else max (s.tokens - rateN s s.tokens) 0 := by
  have hs : secOf ((k + 1) * 1000000) = (k + 1) * 1000000 := by unfold secOf; omega
  have hr := rateN_bd h h.t2
  unfold fillN tokN
  rw [hs, hf, if_neg (by omega), if_neg (by omega)]
  have h1 : ((k + 1) * 1000000 - k * 1000000) / 1000000 = 1 := by omega
  rw [h1]
  by_cases hw : s.tokens < warnOf s
  · rw [if_pos (Or.inl hw), if_pos hw]
    have : rateN s s.tokens = s.count := by unfold rateN; rw [if_pos (Or.inl hw)]
    rw [this]
  · rw [if_neg (by omega), if_neg hw]

theorem warm_stays {s : WarmS} (h : WarmOk s) (hw : s.tokens < warnOf s) : max (comeN s 1 - s.count) 0 < warnOf s := by
  have hc := h.c1
  have hwn := warn_bd h
  unfold comeN
  have hiff : (allOf s - s.tokens) / s.count < 1 ↔ allOf s - s.tokens < 1 * s.count := Int.ediv_lt_iff_lt_mul (by omega)
  split
  · rename_i hh
    have := hiff.1 hh
    omega
  · omega

/-- The rate while it is cold. -/
theorem cold_rate {s : WarmS} (h : WarmOk s) (h3 : 3 ≤ s.count) (hw : warnOf s ≤ s.tokens) (hc : 4 * (s.tokens - warnOf s) ≤ allOf s) : s.count / 2 ≤ rateN s s.tokens := by
  have hb := all_bd h; have hwn := warn_bd h; have ht := h.t2
  by_cases hwa : warnOf s = allOf s
  · have : rateN s s.tokens = s.count := by unfold rateN; rw [if_pos (Or.inr hwa)]
    rw [this]; omega
  · unfold rateN
    rw [if_neg (by omega)]
    generalize hD : 4 * (s.tokens - warnOf s) + allOf s = D
    have d2 : D ≤ 2 * allOf s := by omega
    have : s.count / 2 ≤ allOf s * s.count / D := by
      apply (Int.le_ediv_iff_mul_le (by omega)).2
      have m1 : s.count / 2 * D ≤ s.count / 2 * (2 * allOf s) := Int.mul_le_mul_of_nonneg_left d2 (by omega)
      have m2 : s.count / 2 * 2 * allOf s ≤ s.count * allOf s := Int.mul_le_mul_of_nonneg_right (by omega) (by omega)
      rw [Int.mul_assoc] at m2
      rw [Int.mul_comm (allOf s) s.count]
      omega
    omega

/-- What is so ahead of the fill number k. -/
def WarmsAt (c sec k : Int) (s : WarmS) (past : Int) : Prop :=
  WarmOk s ∧ s.count = c ∧ s.seconds = sec ∧
  ((k = 0 ∧ s = madeS c sec ∧ past = 0) ∨ (1 ≤ k ∧ s.filled = (k - 1) * 1000000 ∧ s.last = (k - 1) * 1000000 ∧ past = rateN s s.tokens ∧ (s.tokens < warnOf s ∨ (warnOf s ≤ s.tokens ∧ ColdAt s (k - 1)))))

theorem warms_step {c sec k : Int} {s : WarmS} {past : Int} (hc : 3 ≤ c) (hk0 : 0 ≤ k) (hk : k ≤ 620) (h : WarmsAt c sec k s past) :
    lookE s (k * 1000000) [past] = 0 ∧ WarmsAt c sec (k + 1) (fillS s (k * 1000000) past) (fillV s (k * 1000000) past) ∧ 1 ≤ fillV s (k * 1000000) past ∧ fillV s (k * 1000000) past ≤ c ∧ (2 * sec < k → fillV s (k * 1000000) past = c) := by
  obtain ⟨ok, e1, e2, h⟩ := h
  have hp : 0 ≤ past ∧ past ≤ 4611686018427387904 ∧ s.last ≤ k * 1000000 := by
    rcases h with ⟨rfl, rfl, rfl⟩ | ⟨h1, h2, h3, h4, _⟩
    · exact ⟨by decide, by decide, by simp [madeS]⟩
    · have := rateN_bd ok ok.t2
      have := ok.c2
      omega
  have hl : lookE s (k * 1000000) [past] = 0 := by
    unfold lookE
    have hm : [past].all mayB = true := by simp [mayB_iff]; omega
    rw [if_neg (by omega), hm, if_pos rfl, if_neg (by omega)]
  have eS : fillS s (k * 1000000) past = filledS s (k * 1000000) past := by unfold fillS; rw [if_pos hl]
  have eV : fillV s (k * 1000000) past = rateN s (fillN s (k * 1000000) past) := by unfold fillV; rw [if_pos hl]
  have ok' := fillS_ok ok (k * 1000000) past
  rw [eS] at ok'
  have hsec : secOf (k * 1000000) = k * 1000000 := by unfold secOf; omega
  have hbn := fillN_bd ok hp.2.2 hp.1
  have hrb := rateN_bd ok hbn.2
  -- the new tokens
  have key : fillN s (k * 1000000) past < warnOf s ∨ (warnOf s ≤ fillN s (k * 1000000) past ∧ ColdAt (filledS s (k * 1000000) past) k) := by
    rcases h with ⟨rfl, rfl, rfl⟩ | ⟨h1, h2, h3, h4, h5⟩
    · right
      have hwn := warn_bd ok
      have e : fillN (madeS c sec) (0 * 1000000) 0 = allOf (madeS c sec) := by
        have hb := all_bd ok
        unfold fillN tokN
        rw [hsec]
        have : (madeS c sec).filled = -1 := rfl
        rw [this, if_neg (by omega), if_pos (by omega)]
        omega
      refine ⟨by rw [e]; exact hwn.2.1, ?_⟩
      have hA : allOf (filledS (madeS c sec) (0 * 1000000) 0) = allOf (madeS c sec) := rfl
      have hW : warnOf (filledS (madeS c sec) (0 * 1000000) 0) = warnOf (madeS c sec) := rfl
      have hT : (filledS (madeS c sec) (0 * 1000000) 0).tokens = allOf (madeS c sec) := e
      unfold ColdAt
      rw [hA, hW, hT]
      have hb := all_bd ok
      by_cases hq : allOf (madeS c sec) < 4 * (allOf (madeS c sec) - warnOf (madeS c sec))
      · left
        refine ⟨hq, ?_⟩
        rw [Int.zero_mul]; omega
      · right
        refine ⟨by omega, 0, ?_, ?_⟩
        · have : (0 : Int) ≤ (filledS (madeS c sec) (0 * 1000000) 0).count / 3 := by show (0 : Int) ≤ c / 3; omega
          have e5 : (0 - 1) * ((filledS (madeS c sec) (0 * 1000000) 0).count / 3) = -((filledS (madeS c sec) (0 * 1000000) 0).count / 3) := by rw [Int.zero_sub, Int.neg_mul, Int.one_mul]
          rw [e5]; omega
        · rw [Int.sub_self, Int.zero_mul]; omega
    · have hstep := warm_step ok (by omega) (k := k - 1) (by omega) h2
      rw [show k - 1 + 1 = k by omega, ← h4] at hstep
      have hwn := warn_bd ok
      rcases h5 with h5 | ⟨h5, h6⟩
      · left
        rw [hstep, if_pos h5]
        exact warm_stays ok h5
      · rw [if_neg (by omega)] at hstep
        by_cases hlt : fillN s (k * 1000000) past < warnOf s
        · exact Or.inl hlt
        · right
          refine ⟨by omega, ?_⟩
          have hT : fillN s (k * 1000000) past = s.tokens - past := by omega
          have hA : allOf (filledS s (k * 1000000) past) = allOf s := rfl
          have hW : warnOf (filledS s (k * 1000000) past) = warnOf s := rfl
          have hTT : (filledS s (k * 1000000) past).tokens = s.tokens - past := hT
          have hC : (filledS s (k * 1000000) past).count = s.count := rfl
          have hra := (rateN_bd ok ok.t2).2.2
          rw [← h4] at hra
          unfold ColdAt at h6 ⊢
          rw [hA, hW, hTT, hC]
          have ea : k * (s.count / 3) = (k - 1) * (s.count / 3) + s.count / 3 := by rw [Int.sub_mul, Int.one_mul]; omega
          rcases h6 with ⟨g1, g2⟩ | ⟨g1, j, g2, g3⟩
          · by_cases hq : allOf s < 4 * (s.tokens - past - warnOf s)
            · left; exact ⟨hq, by omega⟩
            · right
              refine ⟨by omega, k, ?_, ?_⟩
              · omega
              · rw [Int.sub_self, Int.zero_mul]; omega
          · right
            have hrb2 := cold_rate ok (by omega) h5 g1
            rw [← h4] at hrb2
            refine ⟨by omega, j, g2, ?_⟩
            have eb : (k - j) * (s.count / 2) = (k - 1 - j) * (s.count / 2) + s.count / 2 := by rw [show k - j = (k - 1 - j) + 1 by omega, Int.add_mul, Int.one_mul]
            omega
  refine ⟨hl, ?_, by rw [eV]; exact hrb.1, by rw [eV, ← e1]; exact hrb.2.1, fun hlate => ?_⟩
  · rw [eS, eV]
    refine ⟨ok', e1, e2, Or.inr ⟨by omega, ?_, ?_, rfl, ?_⟩⟩
    · show secOf (k * 1000000) = _; rw [hsec]; congr 1; omega
    · show k * 1000000 = _; congr 1; omega
    · rw [show k + 1 - 1 = k by omega]
      exact key
  · rw [eV]
    rcases key with key | ⟨key, hcold⟩
    · unfold rateN; rw [if_pos (Or.inl key)]; exact e1
    · exfalso
      have := cold_short ok' (by show 3 ≤ s.count; omega) key hcold
      have e : (filledS s (k * 1000000) past).seconds = sec := e2
      omega
end Go.Proofs.Ytfcmacibblkdkaa
