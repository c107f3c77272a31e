/- The reference of the layer pacing: how it lies in memory; tokens, Cost, wait. -/
import Derived.Test.YtfednlooepicaaaLawPac
namespace Go.Proofs.Ytfednlooepicaaa
open Go.RowKit
set_option linter.unusedVariables false
set_option linter.unusedSimpArgs false

theorem ask_bad {s : PaceS} {time count rate : Int} (h : ¬ asked time count rate) : askE s time count rate = 2 ∧ askB s time count rate = false ∧ askW s time count rate = 0 := by
  have e : askE s time count rate = 2 := by unfold askE; rw [if_neg h]
  have b : askB s time count rate = false := by unfold askB; rw [e]; rfl
  exact ⟨e, b, by unfold askW; rw [b]; rfl⟩
theorem ask_back {s : PaceS} {time count rate : Int} (h : asked time count rate) (hn : time < s.noted) : askE s time count rate = 7 ∧ askB s time count rate = false ∧ askW s time count rate = 0 := by
  have e : askE s time count rate = 7 := by unfold askE; rw [if_pos h, if_pos hn]
  have b : askB s time count rate = false := by unfold askB; rw [e]; rfl
  exact ⟨e, b, by unfold askW; rw [b]; rfl⟩
theorem ask_on {s : PaceS} {time count rate : Int} (h : asked time count rate) (hn : ¬ time < s.noted) : askE s time count rate = 0 ∧ askB s time count rate = goesB s time count rate := by
  have e : askE s time count rate = 0 := by unfold askE; rw [if_pos h, if_neg hn]
  exact ⟨e, by unfold askB; rw [e]; simp⟩
theorem ask_free {s : PaceS} {time count rate : Int} (hok : PaceOk s) (h : asked time count rate) (hn : ¬ time < s.noted) (hs : s.some = false ∨ s.t + cst count rate ≤ time) : askE s time count rate = 0 ∧ askB s time count rate = true ∧ askW s time count rate = 0 := by
  obtain ⟨e, b⟩ := ask_on h hn
  have g : goesAt s time (cst count rate) = time := by
    unfold goesAt
    rcases hs with hs | hs
    · rw [hs]; rfl
    · split
      · rw [if_neg (by omega)]
      · rfl
  have q := hok.q1
  have gb : goesB s time count rate = true := by unfold goesB; rw [g]; simp; omega
  refine ⟨e, b.trans gb, ?_⟩
  unfold askW; rw [b, gb, g]; simp
theorem ask_wait {s : PaceS} {time count rate : Int} (h : asked time count rate) (hn : ¬ time < s.noted) (hs : s.some = true) (h1 : ¬ s.t + cst count rate ≤ time) (h2 : s.t + cst count rate - time ≤ s.queue) : askE s time count rate = 0 ∧ askB s time count rate = true ∧ askW s time count rate = s.t + cst count rate - time := by
  obtain ⟨e, b⟩ := ask_on h hn
  have g : goesAt s time (cst count rate) = s.t + cst count rate := by unfold goesAt; rw [if_pos hs, if_pos (by omega)]
  have gb : goesB s time count rate = true := by unfold goesB; rw [g]; simp; omega
  refine ⟨e, b.trans gb, ?_⟩
  unfold askW; rw [b, gb, g]; rfl
theorem ask_full {s : PaceS} {time count rate : Int} (h : asked time count rate) (hn : ¬ time < s.noted) (hs : s.some = true) (h1 : ¬ s.t + cst count rate ≤ time) (h2 : ¬ s.t + cst count rate - time ≤ s.queue) : askE s time count rate = 0 ∧ askB s time count rate = false ∧ askW s time count rate = 0 := by
  obtain ⟨e, b⟩ := ask_on h hn
  have g : goesAt s time (cst count rate) = s.t + cst count rate := by unfold goesAt; rw [if_pos hs, if_pos (by omega)]
  have gb : goesB s time count rate = false := by unfold goesB; rw [g]; simp; omega
  refine ⟨e, b.trans gb, ?_⟩
  unfold askW; rw [b, gb]; rfl
theorem gone_no {s : PaceS} {time count rate : Int} (h : askE s time count rate ≠ 0) : gone s time count rate = s := by unfold gone; rw [if_neg h]
theorem gone_full {s : PaceS} {time count rate : Int} (h : askE s time count rate = 0) (hb : askB s time count rate = false) : gone s time count rate = { s with noted := time } := by
  have g : goesB s time count rate = false := by unfold askB at hb; rw [h] at hb; simpa using hb
  unfold gone; rw [if_pos h, g]; rfl
theorem gone_yes {s : PaceS} {time count rate : Int} (h : askE s time count rate = 0) (hb : askB s time count rate = true) : gone s time count rate = { s with t := time + askW s time count rate, some := true, noted := time } := by
  have g : goesB s time count rate = true := by unfold askB at hb; rw [h] at hb; simpa using hb
  have e : time + askW s time count rate = goesAt s time (cst count rate) := by unfold askW; rw [hb]; simp; omega
  unfold gone; rw [if_pos h, g, e]; rfl

/-- The reference's pace in memory. -/
structure RPaceAt (w : World) (b : Nat) (s : PaceS) : Prop where
  c0 : w.cell? ⟨b, 0, none⟩ = some (.int .i64 s.count)
  c1 : w.cell? ⟨b, 1, none⟩ = some (.int .i64 s.queue)
  c2 : w.cell? ⟨b, 2, none⟩ = some (.int .i64 s.noted)
  c3 : w.cell? ⟨b, 3, none⟩ = some (.int .i64 s.t)
  c4 : w.cell? ⟨b, 4, none⟩ = some (.bool s.some)
  fr : ∀ o, w.frozen? ⟨b, o, none⟩ = false
  lt : b < w.heap.size
theorem RPaceAt.of_block {w w' : World} {b : Nat} {s : PaceS} (h : RPaceAt w b s) (hb : w'.heap[b]? = w.heap[b]?) (hz : w.heap.size ≤ w'.heap.size) : RPaceAt w' b s :=
  ⟨(World.cell?_of_block (a := ⟨b, 0, none⟩) hb).trans h.c0, (World.cell?_of_block (a := ⟨b, 1, none⟩) hb).trans h.c1, (World.cell?_of_block (a := ⟨b, 2, none⟩) hb).trans h.c2, (World.cell?_of_block (a := ⟨b, 3, none⟩) hb).trans h.c3, (World.cell?_of_block (a := ⟨b, 4, none⟩) hb).trans h.c4, fun o => (World.frozen?_of_block (a := ⟨b, o, none⟩) hb).trans (h.fr o), Nat.lt_of_lt_of_le h.lt hz⟩
theorem RPaceAt.below {w w' : World} {b : Nat} {s : PaceS} (h : RPaceAt w b s) (hb : Below w.heap.size w w') : RPaceAt w' b s := h.of_block (hb.block b h.lt) hb.size
theorem RPaceAt.grown {w w' : World} {b : Nat} {s : PaceS} {r : Option Nat} (h : RPaceAt w b s) (hg : w.grownBy w' r) (hne : some b ≠ r) : RPaceAt w' b s := h.of_block (hg.block b h.lt hne) hg.size

def tokB (n : Int) : Bool := decide (tok n)
theorem rtok_any (n : Int) (w : World) :
    Calls Try.prog 25 #[.int .i64 n] w fun e w' => e = .returned (.bool (tokB n)) ∧ w = w' := by
  by_cases h1 : n < 1
  · have e : tokB n = false := decide_eq_false (by unfold tok; omega)
    rw [e]
    go_enter Try.func25, Try.ntmps25
    go_wp2_with (fail)
    go_ret
    exact ⟨rfl, rfl⟩
  · by_cases h2 : 1099511627776 < n
    · have h3 : ¬ n ≤ 1099511627776 := by omega
      have e : tokB n = false := decide_eq_false (by unfold tok; omega)
      rw [e]
      go_enter Try.func25, Try.ntmps25
      go_wp2_with (fail)
      go_ret
      exact ⟨rfl, rfl⟩
    · have e : tokB n = true := decide_eq_true (by unfold tok; omega)
      have h3 : n ≤ 1099511627776 := by omega
      rw [e]
      go_enter Try.func25, Try.ntmps25
      go_wp2_with (fail)
      go_ret
      exact ⟨rfl, rfl⟩

set_option maxHeartbeats 400000 in
theorem rcost_any (count rate : Int) (w : World) (a0 : -9223372036854775808 ≤ count) (a1 : count ≤ 9223372036854775807) (b0 : -9223372036854775808 ≤ rate) (b1 : rate ≤ 9223372036854775807) :
    Calls Try.prog 17 #[.int .i64 count, .int .i64 rate] w fun e w' => e = .returned (.tuple #[.int .i64 (costN count rate), .int .i64 (costE count rate)]) ∧ Below w.heap.size w w' := by
  have hc := rtok_any count
  have hr := rtok_any rate
  by_cases h : tok count ∧ tok rate
  · have e1 := Lib.hid (show costN count rate = mdN count 1000000 rate true by
      have hb := cst_bd h.1 h.2
      have hz : rate ≠ 0 := by have := h.2.1; omega
      unfold costN mdN; rw [if_pos h, if_neg hz]
      have : fitB (rnd (count * 1000000) rate true) = true := fitB_yes (by have := hb.1; unfold cst at this; omega) (by have := hb.2; unfold cst at this; omega)
      rw [fitN_yes this]; rfl)
    have e2 := Lib.hid (show costE count rate = mdE count 1000000 rate true by
      have hb := cst_bd h.1 h.2
      have hz : rate ≠ 0 := by have := h.2.1; omega
      unfold costE mdE; rw [if_pos h, if_neg hz]
      have : fitB (rnd (count * 1000000) rate true) = true := fitB_yes (by have := hb.1; unfold cst at this; omega) (by have := hb.2; unfold cst at this; omega)
      rw [fitE_yes this])
    have t1 : tokB count = true := by simp [tokB, h.1]
    have t2 : tokB rate = true := by simp [tokB, h.2]
    rw [t1] at hc
    rw [t2] at hr
    clear t1 t2 h
    rw [e1.out, e2.out]
    have Hc := Lib.hid hc
    have Hr := Lib.hid hr
    clear hc hr
    go_enter Try.func17, Try.ntmps17
    go_wp2_with (fail)
    refine (Hc.out _).mono ?_
    rintro e w1 ⟨rfl, rfl⟩
    go_wp2_with (fail)
    refine (Hr.out _).mono ?_
    rintro e w1 ⟨rfl, rfl⟩
    go_wp2_with (fail)
    refine (rmuldiv_any count 1000000 rate true _ a0 a1 (by decide) (by decide) b0 b1).mono ?_
    rintro e w1 ⟨rfl, hb1⟩
    go_wp2_with (fail)
    go_ret2
    exact ⟨rfl, hb1⟩
  · have e1 : costN count rate = 0 := by unfold costN; rw [if_neg h]
    have e2 : costE count rate = 2 := by unfold costE; rw [if_neg h]
    rw [e1, e2]
    clear e1 e2
    by_cases k1 : tok count
    · have t1 : tokB count = true := by simp [tokB, k1]
      have t2 : tokB rate = false := by simp [tokB]; exact fun hh => h ⟨k1, hh⟩
      rw [t1] at hc
      rw [t2] at hr
      clear t1 t2 h k1
      have Hc := Lib.hid hc
      have Hr := Lib.hid hr
      clear hc hr
      go_enter Try.func17, Try.ntmps17
      go_wp2_with (fail)
      refine (Hc.out _).mono ?_
      rintro e w1 ⟨rfl, rfl⟩
      go_wp2_with (fail)
      refine (Hr.out _).mono ?_
      rintro e w1 ⟨rfl, rfl⟩
      go_wp2_with (fail)
      go_ret2
      exact ⟨rfl, Below.refl _ _⟩
    · have t1 : tokB count = false := by simp [tokB, k1]
      rw [t1] at hc
      clear t1 h k1
      have Hc := Lib.hid hc
      clear hc hr
      go_enter Try.func17, Try.ntmps17
      go_wp2_with (fail)
      refine (Hc.out _).mono ?_
      rintro e w1 ⟨rfl, rfl⟩
      go_wp2_with (fail)
      go_ret2
      exact ⟨rfl, Below.refl _ _⟩
end Go.Proofs.Ytfednlooepicaaa
