/- The reference of the layer pacing: Go, Fork, New, the nil ones; and the layer's own Fork. -/
import Derived.Test.YtfednlooepicaaaPacT
namespace Go.Proofs.Ytfednlooepicaaa
open Go.RowKit
set_option linter.unusedVariables false
set_option linter.unusedSimpArgs false

theorem rgo_any (b : Nat) (s : PaceS) (time count : Int) (w : World) (h : RPaceAt w b s) (hok : PaceOk s) (a0 : -9223372036854775808 ≤ time) (a1 : time ≤ 9223372036854775807) (b0 : -9223372036854775808 ≤ count) (b1 : count ≤ 9223372036854775807) :
    Calls Try.prog 28 #[.pointer (some ⟨b, 0, none⟩), .int .i64 time, .int .i64 count] w fun e w' => e = .returned (.tuple #[.int .i64 (askW s time count s.count), .bool (askB s time count s.count), .int .i64 (askE s time count s.count)]) ∧ RPaceAt w' b (gone s time count s.count) ∧ w.grownBy w' (some b) := by
  have c0 := h.c0
  have H := Lib.hid h
  have r1 := hok.c1
  have r2 := hok.c2
  have Hw := Lib.hid (fun w h => rat_any b s time count s.count w h hok a0 a1 b0 b1 (by omega) (by omega))
  clear h hok
  generalize askW s time count s.count = AW at *
  generalize askB s time count s.count = AB at *
  generalize askE s time count s.count = AE at *
  generalize gone s time count s.count = s' at *
  go_enter Try.func28, Try.ntmps28
  go_wp2_with (fail)
  first
    | (refine (Hw.out _ (H.out)).mono ?_
       rintro e w1 ⟨rfl, hp, hg⟩
       go_wp2_with (fail)
       go_ret3
       exact ⟨rfl, hp, hg⟩)
    | (go_region_with (go_at_call 29; refine (Hw.out _ (H.out.below ((Below.refl _ _).drew))).mono ?_; rintro e w1 ⟨rfl, hp, hg⟩)
       all_goals
         go_wp2_with (fail)
         go_ret3
         exact ⟨rfl, hp, grown_trans (grown_below ((Below.refl _ _).drew) _) hg⟩)
theorem rlook_nil (time count : Int) (w : World) :
    Calls Try.prog 27 #[.pointer none, .int .i64 time, .int .i64 count] w fun e w' => e = .returned (.tuple #[.int .i64 0, .bool false, .int .i64 1]) ∧ Below w.heap.size w w' := by
  go_enter Try.func27, Try.ntmps27
  go_wp2_with (fail)
  go_ret3
  exact ⟨rfl, Below.refl _ _⟩
theorem rgo_nil (time count : Int) (w : World) :
    Calls Try.prog 28 #[.pointer none, .int .i64 time, .int .i64 count] w fun e w' => e = .returned (.tuple #[.int .i64 0, .bool false, .int .i64 1]) ∧ Below w.heap.size w w' := by
  go_enter Try.func28, Try.ntmps28
  go_wp2_with (fail)
  go_ret3
  exact ⟨rfl, Below.refl _ _⟩
theorem rwait_nil (time count rate : Int) (w : World) :
    Calls Try.prog 39 #[.pointer none, .int .i64 time, .int .i64 count, .int .i64 rate] w fun e w' => e = .returned (.tuple #[.int .i64 0, .bool false, .int .i64 1]) ∧ w = w' := by
  go_enter Try.func39, Try.ntmps39
  go_wp2_with (fail)
  go_ret3
  exact ⟨rfl, rfl⟩
theorem rat_nil (time count rate : Int) (w : World) :
    Calls Try.prog 29 #[.pointer none, .int .i64 time, .int .i64 count, .int .i64 rate] w fun e w' => e = .returned (.tuple #[.int .i64 0, .bool false, .int .i64 1]) ∧ Below w.heap.size w w' := by
  go_enter Try.func29, Try.ntmps29
  go_wp2_with (fail)
  refine (rwait_nil _ _ _ _).mono ?_
  rintro e w1 ⟨rfl, rfl⟩
  go_wp2_with (fail)
  go_ret3
  exact ⟨rfl, Below.refl _ _⟩
theorem rnext_nil (w : World) :
    Calls Try.prog 30 #[.pointer none] w fun e w' => e = .returned (.tuple #[.int .i64 0, .bool false]) ∧ w = w' := by
  go_enter Try.func30, Try.ntmps30
  go_wp2_with (fail)
  go_ret2
  exact ⟨rfl, rfl⟩
theorem rfork_nil (w : World) :
    Calls Try.prog 16 #[.pointer none] w fun e w' => e = .returned (.pointer none) ∧ w = w' := by
  go_enter Try.func16, Try.ntmps16
  go_wp2_with (fail)
  go_ret
  exact ⟨rfl, rfl⟩

def RPaceMade (count queue : Int) (w : World) (e : Ending) (w' : World) : Prop :=
  (mayPace count queue ∧ ∃ b, e = .returned (.tuple #[.pointer (some ⟨b, 0, none⟩), .int .i64 0]) ∧ w.heap.size ≤ b ∧ RPaceAt w' b ⟨0, false, count, queue, 0⟩ ∧ Below w.heap.size w w') ∨
  (¬ mayPace count queue ∧ e = .returned (.tuple #[.pointer none, .int .i64 2]) ∧ Below w.heap.size w w')

set_option maxHeartbeats 800000 in
theorem rnew_any (count queue : Int) (w : World) (a0 : -9223372036854775808 ≤ count) (a1 : count ≤ 9223372036854775807) (b0 : -9223372036854775808 ≤ queue) (b1 : queue ≤ 9223372036854775807) :
    Calls Try.prog 15 #[.int .i64 count, .int .i64 queue] w (RPaceMade count queue w) := by
  have hc := rtok_any count
  by_cases hm : mayPace count queue
  · obtain ⟨m1, m2, m3, m4⟩ := hm
    have t1 : tokB count = true := decide_eq_true ⟨m1, m2⟩
    rw [t1] at hc
    have Hc := Lib.hid hc
    clear hc t1
    go_enter Try.func15, Try.ntmps15
    go_wp2_with (fail)
    refine (Hc.out _).mono ?_
    rintro e w1 ⟨rfl, rfl⟩
    go_wp2_with (fail)
    go_ret2
    exact Or.inl ⟨⟨m1, m2, m3, m4⟩, w.heap.size, rfl, Nat.le_refl _, ⟨by simp [go_sem], by simp [go_sem], by simp [go_sem], by simp [go_sem], by simp [go_sem], by simp [go_sem], by simp⟩, (Below.refl _ _).alloc (Nat.le_refl _) _⟩
  · have Hm := Lib.hid hm
    have h' : tokB count = false ∨ (tokB count = true ∧ queue < 0) ∨ (tokB count = true ∧ ¬ queue < 0 ∧ 3600000000 < queue) := by
      by_cases k : tok count
      · have : tokB count = true := decide_eq_true k
        right
        unfold mayPace at hm; unfold tok at k
        by_cases q : queue < 0
        · exact Or.inl ⟨this, q⟩
        · exact Or.inr ⟨this, q, by omega⟩
      · exact Or.inl (decide_eq_false k)
    clear hm
    rcases h' with p1 | ⟨p1, p2⟩ | ⟨p1, p2, p3⟩
    all_goals
      rw [p1] at hc
      have Hc := Lib.hid hc
      clear hc p1
      go_enter Try.func15, Try.ntmps15
      go_wp2_with (fail)
      refine (Hc.out _).mono ?_
      rintro e w1 ⟨rfl, rfl⟩
      go_wp2_with (fail)
      go_ret2
      exact Or.inr ⟨Hm.out, rfl, Below.refl _ _⟩

theorem pfork_any (b : Nat) (s : PaceS) (w : World) (h : PaceAt w b s) :
    Calls Try.prog 14 #[.pointer (some ⟨b, 0, none⟩)] w fun e w' => ∃ b', e = .returned (.pointer (some ⟨b', 0, none⟩)) ∧ w.heap.size ≤ b' ∧ PaceAt w' b' s ∧ Below w.heap.size w w' := by
  obtain ⟨c0, c1, c2, c3, c4, fr, lt⟩ := h
  go_enter Try.func14, Try.ntmps14
  go_wp2_with (fail)
  go_ret
  exact ⟨w.heap.size, rfl, Nat.le_refl _, ⟨by simp [go_sem], by simp [go_sem], by simp [go_sem], by simp [go_sem], by simp [go_sem], by simp [go_sem], by simp [go_sem]⟩, by repeat (first | exact Below.refl _ _ | apply below_drewN | apply Below.drew | apply Below.alloc | apply Below.setCell | omega | (focus (simp <;> omega)))⟩
theorem rfork_any (b : Nat) (s : PaceS) (w : World) (h : RPaceAt w b s) :
    Calls Try.prog 16 #[.pointer (some ⟨b, 0, none⟩)] w fun e w' => ∃ b', e = .returned (.pointer (some ⟨b', 0, none⟩)) ∧ w.heap.size ≤ b' ∧ RPaceAt w' b' s ∧ Below w.heap.size w w' := by
  obtain ⟨c0, c1, c2, c3, c4, fr, lt⟩ := h
  go_enter Try.func16, Try.ntmps16
  go_wp2_with (fail)
  go_ret
  exact ⟨w.heap.size, rfl, Nat.le_refl _, ⟨by simp [go_sem], by simp [go_sem], by simp [go_sem], by simp [go_sem], by simp [go_sem], by simp [go_sem], by simp [go_sem]⟩, by repeat (first | exact Below.refl _ _ | apply below_drewN | apply Below.drew | apply Below.alloc | apply Below.setCell | omega | (focus (simp <;> omega)))⟩
end Go.Proofs.Ytfednlooepicaaa
