/- Plain integers for the layer warmup: how a warm-up fills, and its rate. No program here. -/
import Derived.Test.YtoaggnponndlbaaNumLists
import Derived.Test.YtoaggnponndlbaaTwo
import Derived.Test.YtoaggnponndlbaaNumOps
namespace Go.Proofs.Ytoaggnponndlbaa

/-- How a warm-up stands. -/
structure WarmS where
  count : Int
  seconds : Int
  tokens : Int
  filled : Int
  last : Int
def allOf (s : WarmS) : Int := s.seconds * s.count
def warnOf (s : WarmS) : Int := (allOf s + 1) / 2

/-- What is so of every warm-up that was made. -/
structure WarmOk (s : WarmS) : Prop where
  c1 : 1 ≤ s.count
  c2 : s.count ≤ 1099511627776
  s1 : 1 ≤ s.seconds
  s2 : s.seconds ≤ 3600
  t1 : 0 ≤ s.tokens
  t2 : s.tokens ≤ allOf s
  f1 : -1 ≤ s.filled
  f2 : s.filled ≤ s.last
  l1 : 0 ≤ s.last
  l2 : s.last ≤ 1152921504606846976
  f3 : s.filled = -1 ∨ s.filled % 1000000 = 0

theorem all_bd {s : WarmS} (h : WarmOk s) : s.count ≤ allOf s ∧ allOf s ≤ 3958241859993600 ∧ 1 ≤ allOf s := by
  have h1 := h.c1; have h2 := h.c2; have h3 := h.s1; have h4 := h.s2
  have a1 : 1 * s.count ≤ s.seconds * s.count := Int.mul_le_mul_of_nonneg_right h3 (by omega)
  have a2 : s.seconds * s.count ≤ 3600 * s.count := Int.mul_le_mul_of_nonneg_right h4 (by omega)
  unfold allOf
  omega

/-- The second of a time. -/
def secOf (x : Int) : Int := x - x % 1000000
def comeN (s : WarmS) (n : Int) : Int := if (allOf s - s.tokens) / s.count < n then allOf s else s.tokens + n * s.count
def tokN (s : WarmS) (x past : Int) : Int := if s.filled < 0 then allOf s else if s.tokens < warnOf s ∨ past < s.count / 3 then comeN s ((secOf x - s.filled) / 1000000) else s.tokens
def fillN (s : WarmS) (x past : Int) : Int := if secOf x = s.filled then s.tokens else max (tokN s x past - past) 0
def rateN (s : WarmS) (t : Int) : Int := if t < warnOf s ∨ warnOf s = allOf s then s.count else max (allOf s * s.count / (4 * (t - warnOf s) + allOf s)) 1
def mayB (n : Int) : Bool := decide (0 ≤ n ∧ n ≤ 4611686018427387904)
def lookE (s : WarmS) (x : Int) (ns : List Int) : Int := if x < 0 ∨ 1152921504606846976 < x then 2 else if ns.all mayB then (if x < s.last then 7 else 0) else 2
def filledS (s : WarmS) (x past : Int) : WarmS := { s with tokens := fillN s x past, filled := secOf x, last := x }
def fillS (s : WarmS) (x past : Int) : WarmS := if lookE s x [past] = 0 then filledS s x past else s
def fillV (s : WarmS) (x past : Int) : Int := if lookE s x [past] = 0 then rateN s (fillN s x past) else 0
def takeE (s : WarmS) (x past now n : Int) : Int := if n < 1 ∨ 1099511627776 < n then 2 else lookE s x [past, now]
def takeB (s : WarmS) (x past now n : Int) : Bool := decide (takeE s x past now n = 0) && decide (now ≤ rateN s (fillN s x past) - n)
def takeS (s : WarmS) (x past now n : Int) : WarmS := if takeE s x past now n = 0 then filledS s x past else s

theorem secOf_bd {x : Int} (h : 0 ≤ x) : 0 ≤ secOf x ∧ secOf x ≤ x ∧ secOf x % 1000000 = 0 ∧ x < secOf x + 1000000 := by unfold secOf; omega
theorem sec_after {s : WarmS} (h : WarmOk s) {x : Int} (hx : s.last ≤ x) : s.filled ≤ secOf x := by
  have h1 := h.f2; have h2 := h.f3; have h3 := h.f1; have h4 := h.l1
  unfold secOf
  rcases h2 with h2 | h2 <;> omega

theorem comeN_bd {s : WarmS} (h : WarmOk s) {n : Int} (hn : 0 ≤ n) : s.tokens ≤ comeN s n ∧ comeN s n ≤ allOf s := by
  have h1 := h.c1; have h2 := h.t1; have h3 := h.t2
  unfold comeN
  split
  · omega
  · rename_i hh
    have h4 : n ≤ (allOf s - s.tokens) / s.count := by omega
    have h5 := (Int.le_ediv_iff_mul_le (show 0 < s.count by omega)).1 h4
    have h6 : 0 ≤ n * s.count := Int.mul_nonneg hn (by omega)
    omega
theorem tokN_bd {s : WarmS} (h : WarmOk s) {x : Int} (hx : s.last ≤ x) (past : Int) : 0 ≤ tokN s x past ∧ tokN s x past ≤ allOf s := by
  have hb := all_bd h
  have h2 := h.t1; have h3 := h.t2
  have h4 := sec_after h hx
  unfold tokN
  split
  · omega
  · split
    · have := comeN_bd h (n := (secOf x - s.filled) / 1000000) (by omega)
      omega
    · omega
theorem fillN_bd {s : WarmS} (h : WarmOk s) {x : Int} (hx : s.last ≤ x) {past : Int} (hp : 0 ≤ past) : 0 ≤ fillN s x past ∧ fillN s x past ≤ allOf s := by
  have hb := all_bd h
  have h2 := h.t1; have h3 := h.t2
  have h4 := tokN_bd h hx past
  unfold fillN
  split <;> omega

theorem lookE_cases (s : WarmS) (x : Int) (ns : List Int) : lookE s x ns = 0 ∨ lookE s x ns = 2 ∨ lookE s x ns = 7 := by
  unfold lookE; split
  · simp
  · split
    · split <;> simp
    · simp
theorem lookE_zero {s : WarmS} {x : Int} {ns : List Int} (h : lookE s x ns = 0) : 0 ≤ x ∧ x ≤ 1152921504606846976 ∧ s.last ≤ x ∧ ns.all mayB = true := by
  unfold lookE at h
  split at h
  · simp at h
  · split at h
    · split at h
      · simp at h
      · rename_i a b c; exact ⟨by omega, by omega, by omega, b⟩
    · simp at h
theorem mayB_iff (n : Int) : mayB n = true ↔ 0 ≤ n ∧ n ≤ 4611686018427387904 := by simp [mayB]
theorem look_one {s : WarmS} {x past : Int} (h : lookE s x [past] = 0) : 0 ≤ x ∧ x ≤ 1152921504606846976 ∧ s.last ≤ x ∧ 0 ≤ past ∧ past ≤ 4611686018427387904 := by
  obtain ⟨h1, h2, h3, h4⟩ := lookE_zero h
  simp [mayB_iff] at h4
  exact ⟨h1, h2, h3, h4.1, h4.2⟩
theorem look_two {s : WarmS} {x past now : Int} (h : lookE s x [past, now] = 0) : lookE s x [past] = 0 ∧ 0 ≤ now ∧ now ≤ 4611686018427387904 := by
  obtain ⟨h1, h2, h3, h4⟩ := lookE_zero h
  simp [mayB_iff] at h4
  refine ⟨?_, h4.2.1, h4.2.2⟩
  unfold lookE
  have : [past].all mayB = true := by simp [mayB_iff]; exact h4.1
  rw [if_neg (by omega), this, if_pos rfl, if_neg (by omega)]

theorem filledS_ok {s : WarmS} (h : WarmOk s) {x past : Int} (h0 : 0 ≤ x) (h1 : x ≤ 1152921504606846976) (hx : s.last ≤ x) (hp : 0 ≤ past) : WarmOk (filledS s x past) := by
  have hb := fillN_bd h hx hp
  have hs := secOf_bd h0
  exact ⟨h.c1, h.c2, h.s1, h.s2, hb.1, hb.2, by show -1 ≤ secOf x; omega, by show secOf x ≤ x; omega, h0, h1, Or.inr hs.2.2.1⟩
theorem fillS_ok {s : WarmS} (h : WarmOk s) (x past : Int) : WarmOk (fillS s x past) := by
  unfold fillS; split
  · rename_i he
    obtain ⟨h0, h1, h2, h3, _⟩ := look_one he
    exact filledS_ok h h0 h1 h2 h3
  · exact h
theorem takeE_zero {s : WarmS} {x past now n : Int} (h : takeE s x past now n = 0) : 1 ≤ n ∧ n ≤ 1099511627776 ∧ lookE s x [past, now] = 0 := by
  unfold takeE at h
  split at h
  · simp at h
  · exact ⟨by omega, by omega, h⟩
theorem takeS_ok {s : WarmS} (h : WarmOk s) (x past now n : Int) : WarmOk (takeS s x past now n) := by
  unfold takeS; split
  · rename_i he
    obtain ⟨_, _, hl⟩ := takeE_zero he
    obtain ⟨hl, _, _⟩ := look_two hl
    obtain ⟨h0, h1, h2, h3, _⟩ := look_one hl
    exact filledS_ok h h0 h1 h2 h3
  · exact h

/-- The rate's quotient. -/
theorem warn_bd {s : WarmS} (h : WarmOk s) : 1 ≤ warnOf s ∧ warnOf s ≤ allOf s ∧ allOf s ≤ 2 * warnOf s := by
  have hb := all_bd h
  unfold warnOf; omega
theorem quo_bd {s : WarmS} (h : WarmOk s) {t : Int} (h0 : warnOf s ≤ t) (h1 : t ≤ allOf s) :
    s.count / 3 ≤ allOf s * s.count / (4 * (t - warnOf s) + allOf s) ∧ allOf s * s.count / (4 * (t - warnOf s) + allOf s) ≤ s.count := by
  have hb := all_bd h; have hw := warn_bd h; have hc := h.c1
  generalize hD : 4 * (t - warnOf s) + allOf s = D
  have d1 : allOf s ≤ D := by omega
  have d2 : D ≤ 3 * allOf s := by omega
  constructor
  · apply (Int.le_ediv_iff_mul_le (by omega)).2
    have m1 : s.count / 3 * D ≤ s.count / 3 * (3 * allOf s) := Int.mul_le_mul_of_nonneg_left d2 (by omega)
    have m2 : s.count / 3 * 3 * allOf s ≤ s.count * allOf s := Int.mul_le_mul_of_nonneg_right (by omega) (by omega)
    rw [Int.mul_assoc] at m2
    rw [Int.mul_comm (allOf s) s.count]
    omega
  · apply Int.le_of_lt_add_one
    apply (Int.ediv_lt_iff_lt_mul (by omega)).2
    have m1 : s.count * allOf s ≤ s.count * D := Int.mul_le_mul_of_nonneg_left d1 (by omega)
    rw [Int.mul_comm (allOf s) s.count, Int.add_mul]
    omega
theorem rate_md {s : WarmS} (h : WarmOk s) {t : Int} (h0 : warnOf s ≤ t) (h1 : t ≤ allOf s) :
    mdN (allOf s) s.count (4 * (t - warnOf s) + allOf s) false = allOf s * s.count / (4 * (t - warnOf s) + allOf s) := by
  have hb := all_bd h; have hw := warn_bd h; have hc := h.c1; have hc2 := h.c2
  have hq := quo_bd h h0 h1
  unfold mdN rnd
  rw [if_neg (by omega), if_neg (by simp), Int.fdiv_eq_ediv_of_nonneg _ (by omega)]
  exact fitN_yes (by rw [fitB_iff]; omega)
theorem rateN_bd {s : WarmS} (h : WarmOk s) {t : Int} (h1 : t ≤ allOf s) : 1 ≤ rateN s t ∧ rateN s t ≤ s.count ∧ s.count / 3 ≤ rateN s t := by
  have hc := h.c1
  unfold rateN
  split
  · omega
  · have hq := quo_bd h (t := t) (by omega) h1
    omega
/-- With more tokens no rate is greater. -/
theorem rateN_mono {s : WarmS} (h : WarmOk s) {t u : Int} (htu : t ≤ u) (h1 : u ≤ allOf s) : rateN s u ≤ rateN s t := by
  have hb := all_bd h; have hw := warn_bd h; have hc := h.c1
  by_cases k : t < warnOf s ∨ warnOf s = allOf s
  · have : rateN s t = s.count := by unfold rateN; rw [if_pos k]
    rw [this]; exact (rateN_bd h h1).2.1
  · have k2 : ¬ (u < warnOf s ∨ warnOf s = allOf s) := by omega
    unfold rateN
    rw [if_neg k, if_neg k2]
    have : allOf s * s.count / (4 * (u - warnOf s) + allOf s) ≤ allOf s * s.count / (4 * (t - warnOf s) + allOf s) := by
      apply (Int.le_ediv_iff_mul_le (by omega)).2
      have hq := quo_bd h (t := u) (by omega) h1
      have m1 := Int.mul_ediv_self_le (x := allOf s * s.count) (k := 4 * (u - warnOf s) + allOf s) (by omega)
      have m2 : allOf s * s.count / (4 * (u - warnOf s) + allOf s) * (4 * (t - warnOf s) + allOf s) ≤ allOf s * s.count / (4 * (u - warnOf s) + allOf s) * (4 * (u - warnOf s) + allOf s) :=
        Int.mul_le_mul_of_nonneg_left (by omega) (by omega)
      rw [Int.mul_comm] at m1
      omega
    omega

/-- The layer's filling is the document's. -/
theorem come_layer {s : WarmS} (h : WarmOk s) {n : Int} (hn : 0 ≤ n) : min (keepSum [s.tokens, keep (s.count * n)]) (allOf s) = comeN s n := by
  have hb := all_bd h; have hc := h.c1; have ht := h.t1; have ht2 := h.t2
  rw [keepSum_two _ _ (by omega)]
  have hv : 0 ≤ s.count * n := Int.mul_nonneg (by omega) hn
  have hiff : (allOf s - s.tokens) / s.count < n ↔ allOf s - s.tokens < s.count * n := by
    rw [Int.mul_comm]; exact Int.ediv_lt_iff_lt_mul (by omega)
  unfold comeN
  rw [Int.mul_comm n s.count]
  generalize s.count * n = v at *
  unfold keep
  by_cases k : allOf s - s.tokens < v
  · rw [if_pos (hiff.2 k)]
    repeat' split
    all_goals omega
  · rw [if_neg (fun hh => k (hiff.1 hh))]
    repeat' split
    all_goals omega

/-- A warm-up that was made. -/
def madeS (count seconds : Int) : WarmS := ⟨count, seconds, 0, -1, 0⟩
def mayWarm (count seconds : Int) : Prop := 1 ≤ count ∧ count ≤ 1099511627776 ∧ 1 ≤ seconds ∧ seconds ≤ 3600
theorem made_ok {count seconds : Int} (h : mayWarm count seconds) : WarmOk (madeS count seconds) := by
  obtain ⟨h1, h2, h3, h4⟩ := h
  have : 0 ≤ seconds * count := Int.mul_nonneg (by omega) (by omega)
  refine ⟨h1, h2, h3, h4, Int.le_refl _, this, ?_, ?_, Int.le_refl _, ?_, Or.inl rfl⟩ <;> (simp [madeS])

/-- Cold, it lets about a third pass. -/
theorem cold_law {count seconds x : Int} (h : mayWarm count seconds) (hx : lookE (madeS count seconds) x [0] = 0) :
    1 ≤ fillV (madeS count seconds) x 0 ∧ (fillV (madeS count seconds) x 0 = count / 3 ∨ fillV (madeS count seconds) x 0 = count / 3 + 1) := by
  have ok := made_ok h
  have hb := all_bd ok
  have hw := warn_bd ok
  obtain ⟨h0, _, _, _⟩ := look_one hx
  have hs := secOf_bd h0
  have e1 : fillN (madeS count seconds) x 0 = allOf (madeS count seconds) := by
    unfold fillN tokN
    have f : (madeS count seconds).filled = -1 := rfl
    rw [f, if_neg (by omega), if_pos (by decide)]
    omega
  have e2 : fillV (madeS count seconds) x 0 = rateN (madeS count seconds) (allOf (madeS count seconds)) := by unfold fillV; rw [if_pos hx, e1]
  rw [e2]
  have hr := rateN_bd ok (Int.le_refl (allOf (madeS count seconds)))
  have hc : (madeS count seconds).count = count := rfl
  refine ⟨hr.1, ?_⟩
  by_cases hwa : warnOf (madeS count seconds) = allOf (madeS count seconds)
  · have : rateN (madeS count seconds) (allOf (madeS count seconds)) = count := by unfold rateN; rw [if_pos (Or.inr hwa)]; rfl
    rw [this]
    have : allOf (madeS count seconds) = 1 := by unfold warnOf at hwa; omega
    have := h.1
    omega
  · have hn : ¬ (allOf (madeS count seconds) < warnOf (madeS count seconds) ∨ warnOf (madeS count seconds) = allOf (madeS count seconds)) := by omega
    have e3 : rateN (madeS count seconds) (allOf (madeS count seconds)) = max (allOf (madeS count seconds) * count / (4 * (allOf (madeS count seconds) - warnOf (madeS count seconds)) + allOf (madeS count seconds))) 1 := by unfold rateN; rw [if_neg hn]; rfl
    rw [e3] at hr ⊢
    have hlt : allOf (madeS count seconds) * count / (4 * (allOf (madeS count seconds) - warnOf (madeS count seconds)) + allOf (madeS count seconds)) < count / 3 + 2 := by
      apply (Int.ediv_lt_iff_lt_mul (by omega)).2
      have hA : 2 ≤ allOf (madeS count seconds) := by unfold warnOf at hwa; omega
      have hD : 3 * allOf (madeS count seconds) - 2 ≤ 4 * (allOf (madeS count seconds) - warnOf (madeS count seconds)) + allOf (madeS count seconds) := by unfold warnOf; omega
      rw [hc] at hb
      generalize allOf (madeS count seconds) = A at *
      generalize 4 * (A - warnOf (madeS count seconds)) + A = D at *
      have h1 := h.1
      have m1 : (count / 3 + 2) * (3 * A - 2) ≤ (count / 3 + 2) * D := Int.mul_le_mul_of_nonneg_left hD (by omega)
      have m2 : A * count ≤ A * (3 * (count / 3) + 2) := Int.mul_le_mul_of_nonneg_left (by omega) (by omega)
      have e1 : (count / 3 + 2) * (3 * A - 2) = 3 * (count / 3 * A) - 2 * (count / 3) + 6 * A - 4 := by rw [Int.add_mul, Int.mul_sub, Int.mul_sub]; rw [Int.mul_left_comm]; omega
      have e2 : A * (3 * (count / 3) + 2) = 3 * (count / 3 * A) + 2 * A := by rw [Int.mul_add, Int.mul_left_comm, Int.mul_comm A (count / 3)]; omega
      omega
    omega
end Go.Proofs.Ytoaggnponndlbaa
