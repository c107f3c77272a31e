/- The layer warmup: Rate, Take, Look; the nil ones; live; WarmNone. -/
import Derived.Test.YtoaggnponndlbaaWarmC
namespace Go.Proofs.Ytoaggnponndlbaa
open Go.RowKit
set_option linter.unusedVariables false
set_option linter.unusedSimpArgs false

theorem wRate_any (b : Nat) (s : WarmS) (x past : Int) (w : World) (h : WarmAt w b s) (hok : WarmOk s) :
    Calls Try.prog 12 #[.pointer (some ⟨b, 0, none⟩), .int .i64 x, .int .i64 past] w fun e w' => e = .returned (.tuple #[.int .i64 (fillV s x past), .int .i64 (lookE s x [past])]) ∧ Below w.heap.size w w' := by
  have H := Lib.hid h
  clear h
  go_enter Try.func12, Try.ntmps12
  go_wp2_with (fail)
  refine (wfork_any b s _ H.out).mono ?_
  rintro e w1 ⟨g, rfl, hg, hp1, hb1⟩
  go_wp2_with (fail)
  refine (wFill_any g s x past _ hp1 hok).mono ?_
  rintro e w2 ⟨rfl, hp2, hg2⟩
  go_wp2_with (fail)
  go_ret2
  exact ⟨rfl, below_of_own hb1 hg hg2⟩

theorem wFill_nil (x past : Int) (w : World) :
    Calls Try.prog 19 #[.pointer none, .int .i64 x, .int .i64 past] w fun e w' => e = .returned (.tuple #[.int .i64 0, .int .i64 1]) ∧ Below w.heap.size w w' := by
  go_enter Try.func19, Try.ntmps19
  go_wp2_with (fail)
  refine (wlook_nil x _ _).mono ?_
  rintro e w1 ⟨rfl, rfl⟩
  go_wp2_with (fail)
  go_ret2
  exact ⟨rfl, (Below.refl _ _).alloc (Nat.le_refl _) _⟩
theorem wTake_nil (x past now n : Int) (w : World) :
    Calls Try.prog 11 #[.pointer none, .int .i64 x, .int .i64 past, .int .i64 now, .int .i64 n] w fun e w' => e = .returned (.tuple #[.bool false, .int .i64 1]) ∧ Below w.heap.size w w' := by
  go_enter Try.func11, Try.ntmps11
  go_wp2_with (fail)
  refine (wlook_nil x _ _).mono ?_
  rintro e w1 ⟨rfl, rfl⟩
  go_wp2_with (fail)
  go_ret2
  exact ⟨rfl, (Below.refl _ _).alloc (Nat.le_refl _) _⟩
theorem wRate_nil (x past : Int) (w : World) :
    Calls Try.prog 12 #[.pointer none, .int .i64 x, .int .i64 past] w fun e w' => e = .returned (.tuple #[.int .i64 0, .int .i64 1]) ∧ Below w.heap.size w w' := by
  go_enter Try.func12, Try.ntmps12
  go_wp2_with (fail)
  refine (wfork_nil _).mono ?_
  rintro e w1 ⟨rfl, rfl⟩
  go_wp2_with (fail)
  refine (wFill_nil x past _).mono ?_
  rintro e w1 ⟨rfl, hb⟩
  go_wp2_with (fail)
  go_ret2
  exact ⟨rfl, hb⟩
set_option maxHeartbeats 1600000 in
theorem wTake_any (b : Nat) (s : WarmS) (x past now n : Int) (w : World) (h : WarmAt w b s) (hok : WarmOk s) :
    Calls Try.prog 11 #[.pointer (some ⟨b, 0, none⟩), .int .i64 x, .int .i64 past, .int .i64 now, .int .i64 n] w fun e w' => e = .returned (.tuple #[.bool (takeB s x past now n), .int .i64 (takeE s x past now n)]) ∧ WarmAt w' b (takeS s x past now n) ∧ w.grownBy w' (some b) := by
  have Hlk := Lib.hid (fun (w : World) (h : WarmAt w b s) (bl : Nat) hc hd => wlook_two b s x past now bl w h hc hd)
  have Hfi := Lib.hid (fun (w : World) (h : WarmAt w b s) => wFill_any b s x past w h hok)
  have H := Lib.hid h
  have lt := h.lt
  clear h
  have B1 := (Below.refl w.heap.size w).alloc (Nat.le_refl _) (.cells #[.int .i64 past, .int .i64 now] 3)
  have hno : takeE s x past now n ≠ 0 → takeB s x past now n = false ∧ takeS s x past now n = s := fun hh => ⟨by unfold takeB; rw [decide_eq_false hh]; rfl, by unfold takeS; rw [if_neg hh]⟩
  by_cases h2 : lookE s x [past, now] = 2
  · have hE : takeE s x past now n = 2 := by unfold takeE; rw [h2]; split <;> rfl
    obtain ⟨e1, e2⟩ := hno (by rw [hE]; decide)
    rw [hE, e1, e2]
    rw [h2] at Hlk
    clear hE e1 e2 hno Hfi h2
    go_enter Try.func11, Try.ntmps11
    go_wp2_with (fail)
    refine (Hlk.out _ (H.out.below B1) _ (by simp [go_sem]) (by simp [go_sem])).mono ?_
    rintro e w1 ⟨rfl, rfl⟩
    go_wp2_with (fail)
    go_ret2
    exact ⟨rfl, H.out.below B1, grown_below B1 _⟩
  by_cases hn1 : n < 1
  · have hE : takeE s x past now n = 2 := by unfold takeE; rw [if_pos (Or.inl hn1)]
    obtain ⟨e1, e2⟩ := hno (by rw [hE]; decide)
    rw [hE, e1, e2]
    rcases (show lookE s x [past, now] = 0 ∨ lookE s x [past, now] = 7 by have := lookE_cases s x [past, now]; omega) with hv | hv
    all_goals
      rw [hv] at Hlk
      clear hE e1 e2 hno Hfi hv h2
      go_enter Try.func11, Try.ntmps11
      go_wp2_with (fail)
      refine (Hlk.out _ (H.out.below B1) _ (by simp [go_sem]) (by simp [go_sem])).mono ?_
      rintro e w1 ⟨rfl, rfl⟩
      go_wp2_with (fail)
      go_ret2
      exact ⟨rfl, H.out.below B1, grown_below B1 _⟩
  by_cases hn2 : 1099511627776 < n
  · have hE : takeE s x past now n = 2 := by unfold takeE; rw [if_pos (Or.inr hn2)]
    obtain ⟨e1, e2⟩ := hno (by rw [hE]; decide)
    rw [hE, e1, e2]
    rcases (show lookE s x [past, now] = 0 ∨ lookE s x [past, now] = 7 by have := lookE_cases s x [past, now]; omega) with hv | hv
    all_goals
      rw [hv] at Hlk
      clear hE e1 e2 hno Hfi hv h2
      go_enter Try.func11, Try.ntmps11
      go_wp2_with (fail)
      refine (Hlk.out _ (H.out.below B1) _ (by simp [go_sem]) (by simp [go_sem])).mono ?_
      rintro e w1 ⟨rfl, rfl⟩
      go_wp2_with (fail)
      go_ret2
      exact ⟨rfl, H.out.below B1, grown_below B1 _⟩
  have hE : takeE s x past now n = lookE s x [past, now] := by unfold takeE; rw [if_neg (by omega)]
  by_cases h0 : lookE s x [past, now] = 0
  · obtain ⟨hl, n0, n1⟩ := look_two h0
    obtain ⟨x0, x1, hx, p0, p1⟩ := look_one hl
    have hb := fillN_bd hok hx p0
    have hr := rateN_bd hok hb.2
    have hc := hok.c2
    have e1 : fillV s x past = rateN s (fillN s x past) := by unfold fillV; rw [if_pos hl]
    have e2 : fillS s x past = filledS s x past := by unfold fillS; rw [if_pos hl]
    have e3 : takeS s x past now n = filledS s x past := by unfold takeS; rw [if_pos (hE.trans h0)]
    have e4 : takeB s x past now n = decide (now ≤ rateN s (fillN s x past) - n) := by unfold takeB; rw [decide_eq_true (hE.trans h0)]; rfl
    rw [hE, h0, e3, e4]
    rw [e1, e2, hl] at Hfi
    rw [h0] at Hlk
    clear e1 e2 e3 e4 hE hno h2 hl h0 hb
    generalize rateN s (fillN s x past) = R at *
    generalize filledS s x past = s' at *
    go_enter Try.func11, Try.ntmps11
    go_wp2_with (fail)
    refine (Hlk.out _ (H.out.below B1) _ (by simp [go_sem]) (by simp [go_sem])).mono ?_
    rintro e w1 ⟨rfl, rfl⟩
    go_wp2_with (fail)
    refine (Hfi.out _ (H.out.below B1)).mono ?_
    rintro e w1 ⟨rfl, hp1, hg1⟩
    have HP := Lib.hid hp1
    clear hp1
    go_wp2_with (fail)
    go_ret2
    exact ⟨rfl, HP.out, grown_trans (grown_below B1 _) hg1⟩
  · obtain ⟨e1, e2⟩ := hno (by rw [hE]; exact h0)
    have hv : lookE s x [past, now] = 7 := by have := lookE_cases s x [past, now]; omega
    rw [hE, e1, e2, hv]
    rw [hv] at Hlk
    clear hE e1 e2 hno Hfi hv h2 h0
    go_enter Try.func11, Try.ntmps11
    go_wp2_with (fail)
    refine (Hlk.out _ (H.out.below B1) _ (by simp [go_sem]) (by simp [go_sem])).mono ?_
    rintro e w1 ⟨rfl, rfl⟩
    go_wp2_with (fail)
    go_ret2
    exact ⟨rfl, H.out.below B1, grown_below B1 _⟩

end Go.Proofs.Ytoaggnponndlbaa
