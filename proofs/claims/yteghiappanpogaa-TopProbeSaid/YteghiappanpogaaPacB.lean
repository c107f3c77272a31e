/- The layer pacing: New, Go, Look, At, Next, Fork: what each call answers, and how the pace stands behind it. -/
import Derived.Test.YteghiappanpogaaPac
namespace Go.Proofs.Yteghiappanpogaa
open Go.RowKit
set_option linter.unusedVariables false
set_option linter.unusedSimpArgs false

set_option maxHeartbeats 800000 in
theorem go_any (b : Nat) (s : PaceS) (time count : Int) (w : World) (h : PaceAt w b s) (hok : PaceOk s) (a0 : -9223372036854775808 ≤ time) (a1 : time ≤ 9223372036854775807) (b0 : -9223372036854775808 ≤ count) (b1 : count ≤ 9223372036854775807) :
    Calls Try.prog 7 #[.pointer (some ⟨b, 0, none⟩), .int .i64 time, .int .i64 count] w fun e w' => e = .returned (.tuple #[.int .i64 (askW s time count s.count), .bool (askB s time count s.count), .int .i64 (askE s time count s.count)]) ∧ PaceAt w' b (gone s time count s.count) ∧ w.grownBy w' (some b) := by
  have r0 := hok.c1
  have r1 := hok.c2
  have H := Lib.hid h
  have Hok := Lib.hid hok
  have lt := h.lt
  clear h hok
  go_enter Try.func7, Try.ntmps7
  go_wp2_with (fail)
  refine (prate_any b s _ H.out).mono ?_
  rintro e w1 ⟨rfl, rfl⟩
  go_wp2_with (fail)
  refine (goes_any time _).mono ?_
  rintro e w2 ⟨rfl, rfl⟩
  go_wp2_with (fail)
  have B1 : Below w.heap.size w (w.alloc (.cells #[.int .i64 time] 3)) := (Below.refl _ _).alloc (Nat.le_refl _) _
  refine (asksgo_any b _ s time count s.count _ (H.out.below B1) Hok.out a0 a1 b0 b1 (by omega) (by omega) (by simp [go_sem]) (by simp)).mono ?_
  rintro e w3 ⟨rfl, hp, hg⟩
  go_wp2_with (fail)
  go_ret3
  exact ⟨rfl, hp, grown_trans (grown_below B1 _) hg⟩

set_option maxHeartbeats 800000 in
theorem go_nil (time count : Int) (w : World) :
    Calls Try.prog 7 #[.pointer none, .int .i64 time, .int .i64 count] w fun e w' => e = .returned (.tuple #[.int .i64 0, .bool false, .int .i64 1]) ∧ Below w.heap.size w w' := by
  go_enter Try.func7, Try.ntmps7
  go_wp2_with (fail)
  refine (prate_nil _).mono ?_
  rintro e w1 ⟨rfl, rfl⟩
  go_wp2_with (fail)
  refine (goes_any time _).mono ?_
  rintro e w2 ⟨rfl, rfl⟩
  go_wp2_with (fail)
  refine (asks_nil time count 0 _ _).mono ?_
  rintro e w3 ⟨rfl, rfl⟩
  go_wp2_with (fail)
  go_ret3
  exact ⟨rfl, (Below.refl _ _).alloc (Nat.le_refl _) _⟩

/-- May a pace be made so? -/
def mayPace (count queue : Int) : Prop := 1 ≤ count ∧ count ≤ 1099511627776 ∧ 0 ≤ queue ∧ queue ≤ 3600000000
instance (c q : Int) : Decidable (mayPace c q) := inferInstanceAs (Decidable (_ ∧ _ ∧ _ ∧ _))

/-- A pace was made, in a block of its own, or none. -/
def PaceMade (count queue : Int) (w : World) (e : Ending) (w' : World) : Prop :=
  (mayPace count queue ∧ ∃ b, e = .returned (.tuple #[.pointer (some ⟨b, 0, none⟩), .int .i64 0]) ∧ w.heap.size ≤ b ∧ PaceAt w' b ⟨0, false, count, queue, 0⟩ ∧ Below w.heap.size w w') ∨
  (¬ mayPace count queue ∧ e = .returned (.tuple #[.pointer none, .int .i64 2]) ∧ Below w.heap.size w w')

set_option maxHeartbeats 800000 in
theorem pnew_any (count queue : Int) (w : World) (a0 : -9223372036854775808 ≤ count) (a1 : count ≤ 9223372036854775807) (b0 : -9223372036854775808 ≤ queue) (b1 : queue ≤ 9223372036854775807) :
    Calls Try.prog 4 #[.int .i64 count, .int .i64 queue] w (PaceMade count queue w) := by
  by_cases hm : mayPace count queue
  · obtain ⟨m1, m2, m3, m4⟩ := hm
    go_enter Try.func4, Try.ntmps4
    go_wp2_with (fail)
    go_ret2
    exact Or.inl ⟨⟨m1, m2, m3, m4⟩, w.heap.size, rfl, Nat.le_refl _, ⟨by simp [go_sem], by simp [go_sem], by simp [go_sem], by simp [go_sem], by simp [go_sem], by simp [go_sem], by simp⟩, (Below.refl _ _).alloc (Nat.le_refl _) _⟩
  · have Hm := Lib.hid hm
    have h' : count < 1 ∨ (¬ count < 1 ∧ 1099511627776 < count) ∨ (¬ count < 1 ∧ ¬ 1099511627776 < count ∧ queue < 0) ∨ (¬ count < 1 ∧ ¬ 1099511627776 < count ∧ ¬ queue < 0 ∧ 3600000000 < queue) := by unfold mayPace at hm; omega
    clear hm
    rcases h' with p1 | ⟨p1, p2⟩ | ⟨p1, p2, p3⟩ | ⟨p1, p2, p3, p4⟩
    all_goals
      go_enter Try.func4, Try.ntmps4
      go_wp2_with (fail)
      go_ret2
      exact Or.inr ⟨Hm.out, rfl, Below.refl _ _⟩
end Go.Proofs.Yteghiappanpogaa
