/- The reference of the layer pacing: Look, At, Go, Next, Fork, New; and the layer's own Fork. -/
import Derived.Test.YtfednlooepicaaaPacS
import Derived.Deep.RegionWith
namespace Go.Proofs.Ytfednlooepicaaa
open Go.RowKit
set_option linter.unusedVariables false
set_option linter.unusedSimpArgs false

theorem rlook_any (b : Nat) (s : PaceS) (time count : Int) (w : World) (h : RPaceAt w b s) (hok : PaceOk s) (a0 : -9223372036854775808 ≤ time) (a1 : time ≤ 9223372036854775807) (b0 : -9223372036854775808 ≤ count) (b1 : count ≤ 9223372036854775807) :
    Calls Try.prog 27 #[.pointer (some ⟨b, 0, none⟩), .int .i64 time, .int .i64 count] w fun e w' => e = .returned (.tuple #[.int .i64 (askW s time count s.count), .bool (askB s time count s.count), .int .i64 (askE s time count s.count)]) ∧ Below w.heap.size w w' := by
  have c0 := h.c0
  have H := Lib.hid h
  have Hok := Lib.hid hok
  have r1 := hok.c1
  have r2 := hok.c2
  have Hw := Lib.hid (fun w h => rwait_any b s time count s.count w h Hok.out a0 a1 b0 b1 (by omega) (by omega))
  clear h hok
  generalize askW s time count s.count = AW at *
  generalize askB s time count s.count = AB at *
  generalize askE s time count s.count = AE at *
  go_enter Try.func27, Try.ntmps27
  go_wp2_with (fail)
  first
    | (refine (Hw.out _ (H.out)).mono ?_
       rintro e w1 ⟨rfl, hb⟩
       go_wp2_with (fail)
       go_ret3
       exact ⟨rfl, hb⟩)
    | (go_region_with (go_at_call 39; refine (Hw.out _ (H.out.below ((Below.refl _ _).drew))).mono ?_; rintro e w1 ⟨rfl, hb⟩)
       all_goals
         go_wp2_with (fail)
         go_ret3
         exact ⟨rfl, (Below.refl _ _).drew.trans hb⟩)

theorem rnext_any (b : Nat) (s : PaceS) (w : World) (h : RPaceAt w b s) (hz : s.some = false → s.t = 0) :
    Calls Try.prog 30 #[.pointer (some ⟨b, 0, none⟩)] w fun e w' => e = .returned (.tuple #[.int .i64 s.t, .bool s.some]) ∧ Below w.heap.size w w' := by
  have c3 := h.c3
  have c4 := h.c4
  clear h
  obtain ⟨T, so, cc, Q, NN⟩ := s
  dsimp only at c3 c4 hz ⊢
  cases so
  · have hz := hz rfl
    subst hz
    go_enter Try.func30, Try.ntmps30
    go_wp2_with (fail)
    go_ret2
    exact ⟨rfl, Below.refl _ _⟩
  · clear hz
    go_enter Try.func30, Try.ntmps30
    go_wp2_with (fail)
    go_ret2
    exact ⟨rfl, Below.refl _ _⟩

set_option maxHeartbeats 800000 in
theorem rat_any (b : Nat) (s : PaceS) (time count rate : Int) (w : World) (h : RPaceAt w b s) (hok : PaceOk s) (a0 : -9223372036854775808 ≤ time) (a1 : time ≤ 9223372036854775807) (b0 : -9223372036854775808 ≤ count) (b1 : count ≤ 9223372036854775807) (d0 : -9223372036854775808 ≤ rate) (d1 : rate ≤ 9223372036854775807) :
    Calls Try.prog 29 #[.pointer (some ⟨b, 0, none⟩), .int .i64 time, .int .i64 count, .int .i64 rate] w fun e w' => e = .returned (.tuple #[.int .i64 (askW s time count rate), .bool (askB s time count rate), .int .i64 (askE s time count rate)]) ∧ RPaceAt w' b (gone s time count rate) ∧ w.grownBy w' (some b) := by
  have H := Lib.hid h
  have lt := h.lt
  have Hw := Lib.hid (fun w h => rwait_any b s time count rate w h hok a0 a1 b0 b1 d0 d1)
  by_cases he : askE s time count rate = 0
  · cases hb : askB s time count rate
    · have hg := Lib.hid (gone_full he hb)
      have e3 : askW s time count rate = 0 := by unfold askW; rw [hb]; rfl
      have Hw' := Hw.out
      rw [he, hb, e3] at Hw'
      rw [he, e3, hg.out]
      have Hw'' := Lib.hid Hw'
      clear he hb e3 Hw' Hw h hok hg
      go_enter Try.func29, Try.ntmps29
      go_wp2_with (fail)
      refine (Hw''.out _ H.out).mono ?_
      rintro e w1 ⟨rfl, hb1⟩
      have H1 := H.out.below hb1
      obtain ⟨c0, c1, c2, c3, c4, fr, lt1⟩ := H1
      have f2 := fr 2
      go_wp2_with (fail)
      go_ret3
      exact ⟨rfl, ⟨by simp [go_sem, c0, f2], by simp [go_sem, c1, f2], by simp [go_sem, c2, f2], by simp [go_sem, c3, f2], by simp [go_sem, c4, f2], by simp [go_sem, fr], by simp [go_sem]; omega⟩, grown_set (grown_below hb1 _) _ _⟩
    · have hg := Lib.hid (gone_yes he hb)
      have ha : asked time count rate := by
        apply Classical.byContradiction; intro hn; simp [askE, hn] at he
      have hbd := goesAt_bd hok ha
      have e3 : askW s time count rate = goesAt s time (cst count rate) - time := by unfold askW; rw [hb]; rfl
      have w0 : 0 ≤ askW s time count rate := by omega
      have w1 : time + askW s time count rate ≤ 2252433136382846976 := by omega
      have z0 := ha.1
      have Hw' := Hw.out
      rw [he, hb] at Hw'
      rw [he, hg.out]
      have Hw'' := Lib.hid Hw'
      clear he hb e3 Hw' Hw h hok hg ha hbd
      generalize askW s time count rate = AW at *
      go_enter Try.func29, Try.ntmps29
      go_wp2_with (fail)
      refine (Hw''.out _ H.out).mono ?_
      rintro e w1 ⟨rfl, hb1⟩
      have H1 := H.out.below hb1
      obtain ⟨c0, c1, c2, c3, c4, fr, lt1⟩ := H1
      have f2 := fr 2
      have f3 := fr 3
      have f4 := fr 4
      go_wp2_with (fail)
      go_ret3
      exact ⟨rfl, ⟨by simp [go_sem, c0, fr], by simp [go_sem, c1, fr], by simp [go_sem, c2, fr], by simp [go_sem, c3, fr], by simp [go_sem, c4, fr], by simp [go_sem, fr], by simp [go_sem]; omega⟩, grown_set (grown_set (grown_set (grown_below hb1 _) _ _) _ _) _ _⟩
  · have hg := Lib.hid (gone_no he)
    have hb : askB s time count rate = false := by unfold askB; simp [he]
    have e3 : askW s time count rate = 0 := by unfold askW; rw [hb]; rfl
    have Hw' := Hw.out
    rw [hb, e3] at Hw'
    rw [hb, e3, hg.out]
    have Hw'' := Lib.hid Hw'
    clear hb e3 Hw' Hw h hok hg
    generalize askE s time count rate = AE at *
    go_enter Try.func29, Try.ntmps29
    go_wp2_with (fail)
    refine (Hw''.out _ H.out).mono ?_
    rintro e w1 ⟨rfl, hb1⟩
    go_wp2_with (fail)
    go_ret3
    exact ⟨rfl, H.out.below hb1, grown_below hb1 _⟩
end Go.Proofs.Ytfednlooepicaaa
