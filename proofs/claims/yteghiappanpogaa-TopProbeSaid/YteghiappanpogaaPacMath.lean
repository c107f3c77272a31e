/- Plain integers for the layer pacing: what a cost is, and what a call is answered. No program here. -/
import Derived.Test.YteghiappanpogaaNumMath
namespace Go.Proofs.Yteghiappanpogaa

/-- May so many tokens be? -/
def tok (n : Int) : Prop := 1 ≤ n ∧ n ≤ 1099511627776
instance (n : Int) : Decidable (tok n) := inferInstanceAs (Decidable (_ ∧ _))

/-- How far so many tokens at a rate are apart. -/
def cst (count rate : Int) : Int := rnd (count * 1000000) rate true
def costN (count rate : Int) : Int := if tok count ∧ tok rate then cst count rate else 0
def costE (count rate : Int) : Int := if tok count ∧ tok rate then 0 else 2

theorem cst_bd {count rate : Int} (h : tok count) (h' : tok rate) : 1 ≤ cst count rate ∧ cst count rate ≤ 1099511627776000000 := by
  obtain ⟨a1, a2⟩ := h
  obtain ⟨b1, b2⟩ := h'
  unfold cst rnd
  simp only [if_true]
  rw [Int.fdiv_eq_ediv_of_nonneg _ (by omega)]
  have m0 := Int.mul_ediv_add_emod (-(count * 1000000)) rate
  have m1 := Int.emod_nonneg (-(count * 1000000)) (show rate ≠ 0 by omega)
  have m2 := Int.emod_lt_of_pos (-(count * 1000000)) (show 0 < rate by omega)
  generalize -(count * 1000000) / rate = q at *
  constructor
  · apply Classical.byContradiction; intro hn
    have : 0 ≤ q := by omega
    have : 0 ≤ rate * q := Int.mul_nonneg (by omega) this
    omega
  · apply Classical.byContradiction; intro hn
    have hq : q ≤ -1099511627776000001 := by omega
    have h1 : rate * q ≤ rate * (-1099511627776000001) := Int.mul_le_mul_of_nonneg_left hq (by omega)
    have h2 : rate * (-1099511627776000001) ≤ 1 * (-1099511627776000001) := by omega
    omega

/-- How a pace stands. -/
structure PaceS where
  t : Int
  some : Bool
  count : Int
  queue : Int
  noted : Int

/-- What is so of every pace that was made. -/
structure PaceOk (s : PaceS) : Prop where
  c1 : 1 ≤ s.count
  c2 : s.count ≤ 1099511627776
  q1 : 0 ≤ s.queue
  q2 : s.queue ≤ 3600000000
  n1 : 0 ≤ s.noted
  n2 : s.noted ≤ 1152921504606846976
  t1 : 0 ≤ s.t
  t2 : s.t ≤ 1152921508206846976

/-- May a call be asked so? -/
def asked (time count rate : Int) : Prop := 0 ≤ time ∧ time ≤ 1152921504606846976 ∧ tok count ∧ tok rate
instance (t c r : Int) : Decidable (asked t c r) := inferInstanceAs (Decidable (_ ∧ _ ∧ _ ∧ _))
/-- When it would go. -/
def goesAt (s : PaceS) (time cost : Int) : Int := if s.some then (if time < s.t + cost then s.t + cost else time) else time
def askE (s : PaceS) (time count rate : Int) : Int := if asked time count rate then (if time < s.noted then 7 else 0) else 2
/-- It goes. -/
def goesB (s : PaceS) (time count rate : Int) : Bool := decide (goesAt s time (cst count rate) - time ≤ s.queue)
def askB (s : PaceS) (time count rate : Int) : Bool := decide (askE s time count rate = 0) && goesB s time count rate
def askW (s : PaceS) (time count rate : Int) : Int := if askB s time count rate then goesAt s time (cst count rate) - time else 0
/-- How it stands behind a call that is let go. -/
def gone (s : PaceS) (time count rate : Int) : PaceS :=
  if askE s time count rate = 0 then (if goesB s time count rate then { s with t := goesAt s time (cst count rate), some := true, noted := time } else { s with noted := time }) else s

theorem goesAt_bd {s : PaceS} {time count rate : Int} (h : PaceOk s) (ha : asked time count rate) : time ≤ goesAt s time (cst count rate) ∧ goesAt s time (cst count rate) ≤ 2252433136382846976 := by
  have := cst_bd ha.2.2.1 ha.2.2.2
  have := ha.1; have := ha.2.1; have := h.t1; have := h.t2
  unfold goesAt
  split
  · split <;> omega
  · omega
theorem gone_ok {s : PaceS} (h : PaceOk s) (time count rate : Int) : PaceOk (gone s time count rate) := by
  unfold gone
  split
  · rename_i he
    have ha : asked time count rate := by
      apply Classical.byContradiction; intro hn; simp [askE, hn] at he
    have hb := goesAt_bd h ha
    have a1 := ha.1; have a2 := ha.2.1
    split
    · rename_i hg
      have hg' : goesAt s time (cst count rate) - time ≤ s.queue := by simpa [goesB] using hg
      have := h.q2
      exact ⟨h.c1, h.c2, h.q1, h.q2, a1, a2, by show 0 ≤ goesAt s time (cst count rate); omega, by show goesAt s time (cst count rate) ≤ _; omega⟩
    · exact ⟨h.c1, h.c2, h.q1, h.q2, a1, a2, h.t1, h.t2⟩
  · exact h
end Go.Proofs.Yteghiappanpogaa
