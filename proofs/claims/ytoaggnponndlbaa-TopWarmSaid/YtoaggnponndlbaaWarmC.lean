/- The layer warmup: New, Fill, Tokens, Marks, Last, Fork. -/
import Derived.Test.YtoaggnponndlbaaWarmB
namespace Go.Proofs.Ytoaggnponndlbaa
open Go.RowKit
set_option linter.unusedVariables false
set_option linter.unusedSimpArgs false

def WarmMade (count seconds : Int) (w : World) (e : Ending) (w' : World) : Prop :=
  (mayWarm count seconds ∧ ∃ b, e = .returned (.tuple #[.pointer (some ⟨b, 0, none⟩), .int .i64 0]) ∧ w.heap.size ≤ b ∧ WarmAt w' b (madeS count seconds) ∧ Below w.heap.size w w') ∨
  (¬ mayWarm count seconds ∧ e = .returned (.tuple #[.pointer none, .int .i64 2]) ∧ Below w.heap.size w w')

set_option maxHeartbeats 800000 in
theorem wnew_any (count seconds : Int) (w : World) (a0 : -9223372036854775808 ≤ count) (a1 : count ≤ 9223372036854775807) (b0 : -9223372036854775808 ≤ seconds) (b1 : seconds ≤ 9223372036854775807) :
    Calls Try.prog 10 #[.int .i64 count, .int .i64 seconds] w (WarmMade count seconds w) := by
  by_cases hm : mayWarm count seconds
  · obtain ⟨m1, m2, m3, m4⟩ := hm
    have hb := all_bd (made_ok (count := count) (seconds := seconds) ⟨m1, m2, m3, m4⟩)
    have hA : seconds * count = allOf (madeS count seconds) := rfl
    have hW := Lib.hid (show (allOf (madeS count seconds) + 1) / 2 = warnOf (madeS count seconds) from rfl)
    generalize hAL : allOf (madeS count seconds) = AL at *
    go_enter Try.func10, Try.ntmps10
    go_wp2_with (fail)
    go_ret2
    exact Or.inl ⟨⟨m1, m2, m3, m4⟩, w.heap.size, rfl, Nat.le_refl _, ⟨by simp [go_sem, madeS], by simp [go_sem, madeS], by rw [← hW.out]; simp [go_sem], by rw [hAL]; simp [go_sem], by simp [go_sem, madeS], by simp [go_sem, madeS], by simp [go_sem, madeS], by simp [go_sem], by simp⟩, (Below.refl _ _).alloc (Nat.le_refl _) _⟩
  · have Hm := Lib.hid hm
    have h' : count < 1 ∨ (¬ count < 1 ∧ 1099511627776 < count) ∨ (¬ count < 1 ∧ ¬ 1099511627776 < count ∧ seconds < 1) ∨ (¬ count < 1 ∧ ¬ 1099511627776 < count ∧ ¬ seconds < 1 ∧ 3600 < seconds) := by unfold mayWarm at hm; omega
    clear hm
    rcases h' with p1 | ⟨p1, p2⟩ | ⟨p1, p2, p3⟩ | ⟨p1, p2, p3, p4⟩
    all_goals
      go_enter Try.func10, Try.ntmps10
      go_wp2_with (fail)
      go_ret2
      exact Or.inr ⟨Hm.out, rfl, Below.refl _ _⟩

theorem wtokens_any (b : Nat) (s : WarmS) (w : World) (h : WarmAt w b s) :
    Calls Try.prog 15 #[.pointer (some ⟨b, 0, none⟩)] w fun e w' => e = .returned (.int .i64 s.tokens) ∧ w = w' := by
  have c4 := h.c4
  obtain ⟨s0, s1, s2, s3, s4⟩ := s
  dsimp only at c4 ⊢
  clear h
  go_enter Try.func15, Try.ntmps15
  go_wp2_with (fail)
  go_ret
  exact ⟨rfl, rfl⟩
theorem wtokens_nil (w : World) :
    Calls Try.prog 15 #[.pointer none] w fun e w' => e = .returned (.int .i64 0) ∧ w = w' := by
  go_enter Try.func15, Try.ntmps15
  go_wp2_with (fail)
  go_ret
  exact ⟨rfl, rfl⟩
theorem wmarks_any (b : Nat) (s : WarmS) (w : World) (h : WarmAt w b s) :
    Calls Try.prog 14 #[.pointer (some ⟨b, 0, none⟩)] w fun e w' => e = .returned (.tuple #[.int .i64 (warnOf s), .int .i64 (allOf s)]) ∧ Below w.heap.size w w' := by
  have c2 := h.c2
  have c3 := h.c3
  generalize warnOf s = WA at *
  generalize allOf s = AL at *
  clear h
  go_enter Try.func14, Try.ntmps14
  go_wp2_with (fail)
  first
    | (go_ret2
       exact ⟨rfl, Below.refl _ _⟩)
    | (go_quiet (fail)
       go_wp2_with (fail)
       go_ret2
       exact ⟨rfl, by repeat (first | exact Below.refl _ _ | apply below_drewN | apply Below.drew)⟩)
theorem wmarks_nil (w : World) :
    Calls Try.prog 14 #[.pointer none] w fun e w' => e = .returned (.tuple #[.int .i64 0, .int .i64 0]) ∧ w = w' := by
  go_enter Try.func14, Try.ntmps14
  go_wp2_with (fail)
  go_ret2
  exact ⟨rfl, rfl⟩
theorem wfork_nil (w : World) :
    Calls Try.prog 20 #[.pointer none] w fun e w' => e = .returned (.pointer none) ∧ w = w' := by
  go_enter Try.func20, Try.ntmps20
  go_wp2_with (fail)
  go_ret
  exact ⟨rfl, rfl⟩
theorem wfork_any (b : Nat) (s : WarmS) (w : World) (h : WarmAt w b s) :
    Calls Try.prog 20 #[.pointer (some ⟨b, 0, none⟩)] w fun e w' => ∃ b', e = .returned (.pointer (some ⟨b', 0, none⟩)) ∧ w.heap.size ≤ b' ∧ WarmAt w' b' s ∧ Below w.heap.size w w' := by
  obtain ⟨c0, c1, c2, c3, c4, c5, c6, fr, lt⟩ := h
  obtain ⟨wa, hwa⟩ : ∃ v, warnOf s = v := ⟨_, rfl⟩
  obtain ⟨al, hal⟩ : ∃ v, allOf s = v := ⟨_, rfl⟩
  have Hwa := Lib.hid hwa
  have Hal := Lib.hid hal
  rw [hwa] at c2
  rw [hal] at c3
  clear hwa hal
  go_enter Try.func20, Try.ntmps20
  go_wp2_with (fail)
  go_ret
  exact ⟨w.heap.size, rfl, Nat.le_refl _, ⟨by simp [go_sem], by simp [go_sem], by rw [Hwa.out]; simp [go_sem], by rw [Hal.out]; simp [go_sem], by simp [go_sem], by simp [go_sem], by simp [go_sem], by simp [go_sem], by simp [go_sem]⟩, by repeat (first | exact Below.refl _ _ | apply below_drewN | apply Below.drew | apply Below.alloc | apply Below.setCell | omega | (focus (simp <;> omega)))⟩

theorem wlook_one (b : Nat) (s : WarmS) (x past : Int) (bl : Nat) (w : World) (h : WarmAt w b s) (hc : w.cell? ⟨bl, 0, none⟩ = some (.int .i64 past)) :
    Calls Try.prog 18 #[.pointer (some ⟨b, 0, none⟩), .int .i64 x, .slice (some ⟨bl, 0, none⟩) 1 1] w fun e w' => e = .returned (.int .i64 (lookE s x [past])) ∧ w = w' := by
  refine wlook_any b s x bl 0 1 1 [past] w h rfl (by decide) (fun j hj => ?_)
  have : j = 0 := by simp at hj; omega
  subst this; exact hc
theorem wlook_two (b : Nat) (s : WarmS) (x past now : Int) (bl : Nat) (w : World) (h : WarmAt w b s) (hc : w.cell? ⟨bl, 0, none⟩ = some (.int .i64 past)) (hd : w.cell? ⟨bl, 1, none⟩ = some (.int .i64 now)) :
    Calls Try.prog 18 #[.pointer (some ⟨b, 0, none⟩), .int .i64 x, .slice (some ⟨bl, 0, none⟩) 2 2] w fun e w' => e = .returned (.int .i64 (lookE s x [past, now])) ∧ w = w' := by
  refine wlook_any b s x bl 0 2 2 [past, now] w h rfl (by decide) (fun j hj => ?_)
  have : j = 0 ∨ j = 1 := by simp at hj; omega
  rcases this with rfl | rfl
  · exact hc
  · exact hd

set_option maxHeartbeats 1600000 in
theorem wFill_any (b : Nat) (s : WarmS) (x past : Int) (w : World) (h : WarmAt w b s) (hok : WarmOk s) :
    Calls Try.prog 19 #[.pointer (some ⟨b, 0, none⟩), .int .i64 x, .int .i64 past] w fun e w' => e = .returned (.tuple #[.int .i64 (fillV s x past), .int .i64 (lookE s x [past])]) ∧ WarmAt w' b (fillS s x past) ∧ w.grownBy w' (some b) := by
  have Hlk := Lib.hid (fun (w : World) (h : WarmAt w b s) (bl : Nat) hc => wlook_one b s x past bl w h hc)
  have H := Lib.hid h
  have lt := h.lt
  clear h
  by_cases he : lookE s x [past] = 0
  · obtain ⟨x0, x1, hx, p0, p1⟩ := look_one he
    have e1 : fillV s x past = rateN s (fillN s x past) := by unfold fillV; rw [if_pos he]
    have e2 : fillS s x past = filledS s x past := by unfold fillS; rw [if_pos he]
    rw [e1, e2]
    clear e1 e2
    have hb := fillN_bd hok hx p0
    have Hf := Lib.hid (fun (w : World) (h : WarmAt w b s) => wfill_any b s x past w h hok x0 x1 hx p0 p1)
    have Hr := Lib.hid (fun (w : World) => wrate_any s (fillN s x past) w hok hb.1 hb.2)
    have HS := Lib.hid (show filledS s x past = { s with tokens := fillN s x past, filled := secOf x, last := x } from rfl)
    rw [he] at Hlk ⊢
    clear he hb
    generalize fillN s x past = T at *
    generalize secOf x = SEC at *
    generalize rateN s T = R at *
    go_enter Try.func19, Try.ntmps19
    go_wp2_with (fail)
    have B1 := (Below.refl w.heap.size w).alloc (Nat.le_refl _) (.cells #[.int .i64 past] 3)
    refine (Hlk.out _ (H.out.below B1) _ (by simp [go_sem])).mono ?_
    rintro e w1 ⟨rfl, rfl⟩
    go_wp2_with (fail)
    refine (Hf.out _ (H.out.below B1)).mono ?_
    rintro e w1 ⟨rfl, hb1⟩
    have L1 := B1.trans (hb1.mono B1.size)
    obtain ⟨c0, c1, c2, c3, c4, c5, c6, fr, lt1⟩ := H.out.below L1
    have f4 := fr 4
    have f5 := fr 5
    have f6 := fr 6
    go_wp2_with (fail)
    have P6 : WarmAt (((w1.setCell ⟨b, 4, none⟩ (.int .i64 T)).setCell ⟨b, 5, none⟩ (.int .i64 SEC)).setCell ⟨b, 6, none⟩ (.int .i64 x)) b (filledS s x past) := by
      rw [HS.out]
      exact ⟨by simp [go_sem, c0, f4, f5, f6], by simp [go_sem, c1, f4, f5, f6], by rw [show warnOf { s with tokens := T, filled := SEC, last := x } = warnOf s from rfl]; simp [go_sem, c2, f4, f5, f6], by rw [show allOf { s with tokens := T, filled := SEC, last := x } = allOf s from rfl]; simp [go_sem, c3, f4, f5, f6], by simp [go_sem, c4, f4, f5, f6], by simp [go_sem, c5, f4, f5, f6], by simp [go_sem, c6, f4, f5, f6], by simp [go_sem, fr], by simp [go_sem]; omega⟩
    have G6 : w.grownBy (((w1.setCell ⟨b, 4, none⟩ (.int .i64 T)).setCell ⟨b, 5, none⟩ (.int .i64 SEC)).setCell ⟨b, 6, none⟩ (.int .i64 x)) (some b) := grown_set (grown_set (grown_set (grown_below L1 _) _ _) _ _) _ _
    generalize (((w1.setCell ⟨b, 4, none⟩ (.int .i64 T)).setCell ⟨b, 5, none⟩ (.int .i64 SEC)).setCell ⟨b, 6, none⟩ (.int .i64 x)) = W6 at *
    have P7 := P6
    rw [HS.out] at P7
    have HP := Lib.hid P6
    clear P6 c0 c1 c2 c3 c4 c5 c6 fr f4 f5 f6 lt1 hb1 L1 B1
    obtain ⟨c0, c1, c2, c3, c4, c5, c6, fr, lt6⟩ := P7
    rw [show warnOf { s with tokens := T, filled := SEC, last := x } = warnOf s from rfl] at c2
    rw [show allOf { s with tokens := T, filled := SEC, last := x } = allOf s from rfl] at c3
    dsimp only at c0 c1 c4 c5 c6
    go_region_with ((go_at_call 23; refine (Hr.out _).mono ?_; rintro e w7 ⟨rfl, hb7⟩))
    all_goals
      go_wp2_with (fail)
      go_ret2
      exact ⟨rfl, HP.out.below ((Below.refl _ _).drew.trans hb7), grown_trans G6 (grown_below ((Below.refl _ _).drew.trans hb7) _)⟩
  · have e1 : fillV s x past = 0 := by unfold fillV; rw [if_neg he]
    have e2 : fillS s x past = s := by unfold fillS; rw [if_neg he]
    rw [e1, e2]
    clear e1 e2
    generalize lookE s x [past] = LE at *
    go_enter Try.func19, Try.ntmps19
    go_wp2_with (fail)
    have B1 := (Below.refl w.heap.size w).alloc (Nat.le_refl _) (.cells #[.int .i64 past] 3)
    refine (Hlk.out _ (H.out.below B1) _ (by simp [go_sem])).mono ?_
    rintro e w1 ⟨rfl, rfl⟩
    go_wp2_with (fail)
    go_ret2
    exact ⟨rfl, H.out.below B1, grown_below B1 _⟩
end Go.Proofs.Ytoaggnponndlbaa
