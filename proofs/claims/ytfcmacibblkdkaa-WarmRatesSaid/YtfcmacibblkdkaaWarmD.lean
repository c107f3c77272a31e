/- The layer warmup: Rate, Take, Look; the nil ones; live; WarmNone. -/
import Derived.Test.YtfcmacibblkdkaaWarmC
namespace Go.Proofs.Ytfcmacibblkdkaa
open Go.RowKit
set_option linter.unusedVariables false
set_option linter.unusedSimpArgs false

theorem wRate_any (b : Nat) (s : WarmS) (x past : Int) (w : World) (h : WarmAt w b s) (hok : WarmOk s) :
    Calls Try.prog 14 #[.pointer (some ⟨b, 0, none⟩), .int .i64 x, .int .i64 past] w fun e w' => e = .returned (.tuple #[.int .i64 (fillV s x past), .int .i64 (lookE s x [past])]) ∧ Below w.heap.size w w' := by
  have H := Lib.hid h
  clear h
  go_enter Try.func14, Try.ntmps14
  go_wp2_with (fail)
  refine (wfork_any b s _ H.out).mono ?_
  rintro e w1 ⟨g, rfl, hg, hp1, hb1⟩
  go_wp2_with (fail)
  refine (wFill_any g s x past _ hp1 hok).mono ?_
  rintro e w2 ⟨rfl, hp2, hg2⟩
  go_wp2_with (fail)
  go_ret2
  exact ⟨rfl, below_of_own hb1 hg hg2⟩

theorem wFill_nil (x past : Int) (w : World) :
    Calls Try.prog 12 #[.pointer none, .int .i64 x, .int .i64 past] w fun e w' => e = .returned (.tuple #[.int .i64 0, .int .i64 1]) ∧ Below w.heap.size w w' := by
  go_enter Try.func12, Try.ntmps12
  go_wp2_with (fail)
  refine (wlook_nil x _ _).mono ?_
  rintro e w1 ⟨rfl, rfl⟩
  go_wp2_with (fail)
  go_ret2
  exact ⟨rfl, (Below.refl _ _).alloc (Nat.le_refl _) _⟩
theorem wTake_nil (x past now n : Int) (w : World) :
    Calls Try.prog 16 #[.pointer none, .int .i64 x, .int .i64 past, .int .i64 now, .int .i64 n] w fun e w' => e = .returned (.tuple #[.bool false, .int .i64 1]) ∧ Below w.heap.size w w' := by
  go_enter Try.func16, Try.ntmps16
  go_wp2_with (fail)
  refine (wlook_nil x _ _).mono ?_
  rintro e w1 ⟨rfl, rfl⟩
  go_wp2_with (fail)
  go_ret2
  exact ⟨rfl, (Below.refl _ _).alloc (Nat.le_refl _) _⟩
theorem wRate_nil (x past : Int) (w : World) :
    Calls Try.prog 14 #[.pointer none, .int .i64 x, .int .i64 past] w fun e w' => e = .returned (.tuple #[.int .i64 0, .int .i64 1]) ∧ Below w.heap.size w w' := by
  go_enter Try.func14, Try.ntmps14
  go_wp2_with (fail)
  refine (wfork_nil _).mono ?_
  rintro e w1 ⟨rfl, rfl⟩
  go_wp2_with (fail)
  refine (wFill_nil x past _).mono ?_
  rintro e w1 ⟨rfl, hb⟩
  go_wp2_with (fail)
  go_ret2
  exact ⟨rfl, hb⟩
theorem wLook_nil (x past now n : Int) (w : World) :
    Calls Try.prog 15 #[.pointer none, .int .i64 x, .int .i64 past, .int .i64 now, .int .i64 n] w fun e w' => e = .returned (.tuple #[.bool false, .int .i64 1]) ∧ Below w.heap.size w w' := by
  go_enter Try.func15, Try.ntmps15
  go_wp2_with (fail)
  refine (wfork_nil _).mono ?_
  rintro e w1 ⟨rfl, rfl⟩
  go_wp2_with (fail)
  refine (wTake_nil x past now n _).mono ?_
  rintro e w1 ⟨rfl, hb⟩
  go_wp2_with (fail)
  go_ret2
  exact ⟨rfl, hb⟩

set_option maxHeartbeats 1600000 in
theorem wTake_any (b : Nat) (s : WarmS) (x past now n : Int) (w : World) (h : WarmAt w b s) (hok : WarmOk s) :
    Calls Try.prog 16 #[.pointer (some ⟨b, 0, none⟩), .int .i64 x, .int .i64 past, .int .i64 now, .int .i64 n] w fun e w' => e = .returned (.tuple #[.bool (takeB s x past now n), .int .i64 (takeE s x past now n)]) ∧ WarmAt w' b (takeS s x past now n) ∧ w.grownBy w' (some b) := by
  have Hlk := Lib.hid (fun (w : World) (h : WarmAt w b s) (bl : Nat) hc hd => wlook_two b s x past now bl w h hc hd)
  have Hfi := Lib.hid (fun (w : World) (h : WarmAt w b s) => wFill_any b s x past w h hok)
  have H := Lib.hid h
  have lt := h.lt
  clear h
  have B1 := (Below.refl w.heap.size w).alloc (Nat.le_refl _) (.cells #[.int .i64 past, .int .i64 now] 3)
  have hno : takeE s x past now n ≠ 0 → takeB s x past now n = false ∧ takeS s x past now n = s := fun hh => ⟨by unfold takeB; rw [decide_eq_false hh]; rfl, by unfold takeS; rw [if_neg hh]⟩
  by_cases h2 : lookE s x [past, now] = 2
  · have hE : takeE s x past now n = 2 := by unfold takeE; rw [h2]; split <;> rfl
    obtain ⟨e1, e2⟩ := hno (by rw [hE]; decide)
    rw [hE, e1, e2]
    rw [h2] at Hlk
    clear hE e1 e2 hno Hfi h2
    go_enter Try.func16, Try.ntmps16
    go_wp2_with (fail)
    refine (Hlk.out _ (H.out.below B1) _ (by simp [go_sem]) (by simp [go_sem])).mono ?_
    rintro e w1 ⟨rfl, rfl⟩
    go_wp2_with (fail)
    go_ret2
    exact ⟨rfl, H.out.below B1, grown_below B1 _⟩
  by_cases hn1 : n < 1
  · have hE : takeE s x past now n = 2 := by unfold takeE; rw [if_pos (Or.inl hn1)]
    obtain ⟨e1, e2⟩ := hno (by rw [hE]; decide)
    rw [hE, e1, e2]
    rcases (show lookE s x [past, now] = 0 ∨ lookE s x [past, now] = 7 by have := lookE_cases s x [past, now]; omega) with hv | hv
    all_goals
      rw [hv] at Hlk
      clear hE e1 e2 hno Hfi hv h2
      go_enter Try.func16, Try.ntmps16
      go_wp2_with (fail)
      refine (Hlk.out _ (H.out.below B1) _ (by simp [go_sem]) (by simp [go_sem])).mono ?_
      rintro e w1 ⟨rfl, rfl⟩
      go_wp2_with (fail)
      go_ret2
      exact ⟨rfl, H.out.below B1, grown_below B1 _⟩
  by_cases hn2 : 1099511627776 < n
  · have hE : takeE s x past now n = 2 := by unfold takeE; rw [if_pos (Or.inr hn2)]
    obtain ⟨e1, e2⟩ := hno (by rw [hE]; decide)
    rw [hE, e1, e2]
    rcases (show lookE s x [past, now] = 0 ∨ lookE s x [past, now] = 7 by have := lookE_cases s x [past, now]; omega) with hv | hv
    all_goals
      rw [hv] at Hlk
      clear hE e1 e2 hno Hfi hv h2
      go_enter Try.func16, Try.ntmps16
      go_wp2_with (fail)
      refine (Hlk.out _ (H.out.below B1) _ (by simp [go_sem]) (by simp [go_sem])).mono ?_
      rintro e w1 ⟨rfl, rfl⟩
      go_wp2_with (fail)
      go_ret2
      exact ⟨rfl, H.out.below B1, grown_below B1 _⟩
  have hE : takeE s x past now n = lookE s x [past, now] := by unfold takeE; rw [if_neg (by omega)]
  by_cases h0 : lookE s x [past, now] = 0
  · obtain ⟨hl, n0, n1⟩ := look_two h0
    obtain ⟨x0, x1, hx, p0, p1⟩ := look_one hl
    have hb := fillN_bd hok hx p0
    have hr := rateN_bd hok hb.2
    have hc := hok.c2
    have e1 : fillV s x past = rateN s (fillN s x past) := by unfold fillV; rw [if_pos hl]
    have e2 : fillS s x past = filledS s x past := by unfold fillS; rw [if_pos hl]
    have e3 : takeS s x past now n = filledS s x past := by unfold takeS; rw [if_pos (hE.trans h0)]
    have e4 : takeB s x past now n = decide (now ≤ rateN s (fillN s x past) - n) := by unfold takeB; rw [decide_eq_true (hE.trans h0)]; rfl
    rw [hE, h0, e3, e4]
    rw [e1, e2, hl] at Hfi
    rw [h0] at Hlk
    clear e1 e2 e3 e4 hE hno h2 hl h0 hb
    generalize rateN s (fillN s x past) = R at *
    generalize filledS s x past = s' at *
    go_enter Try.func16, Try.ntmps16
    go_wp2_with (fail)
    refine (Hlk.out _ (H.out.below B1) _ (by simp [go_sem]) (by simp [go_sem])).mono ?_
    rintro e w1 ⟨rfl, rfl⟩
    go_wp2_with (fail)
    refine (Hfi.out _ (H.out.below B1)).mono ?_
    rintro e w1 ⟨rfl, hp1, hg1⟩
    have HP := Lib.hid hp1
    clear hp1
    go_wp2_with (fail)
    go_ret2
    exact ⟨rfl, HP.out, grown_trans (grown_below B1 _) hg1⟩
  · obtain ⟨e1, e2⟩ := hno (by rw [hE]; exact h0)
    have hv : lookE s x [past, now] = 7 := by have := lookE_cases s x [past, now]; omega
    rw [hE, e1, e2, hv]
    rw [hv] at Hlk
    clear hE e1 e2 hno Hfi hv h2 h0
    go_enter Try.func16, Try.ntmps16
    go_wp2_with (fail)
    refine (Hlk.out _ (H.out.below B1) _ (by simp [go_sem]) (by simp [go_sem])).mono ?_
    rintro e w1 ⟨rfl, rfl⟩
    go_wp2_with (fail)
    go_ret2
    exact ⟨rfl, H.out.below B1, grown_below B1 _⟩

theorem wLook_any (b : Nat) (s : WarmS) (x past now n : Int) (w : World) (h : WarmAt w b s) (hok : WarmOk s) :
    Calls Try.prog 15 #[.pointer (some ⟨b, 0, none⟩), .int .i64 x, .int .i64 past, .int .i64 now, .int .i64 n] w fun e w' => e = .returned (.tuple #[.bool (takeB s x past now n), .int .i64 (takeE s x past now n)]) ∧ Below w.heap.size w w' := by
  have H := Lib.hid h
  clear h
  go_enter Try.func15, Try.ntmps15
  go_wp2_with (fail)
  refine (wfork_any b s _ H.out).mono ?_
  rintro e w1 ⟨g, rfl, hg, hp1, hb1⟩
  go_wp2_with (fail)
  refine (wTake_any g s x past now n _ hp1 hok).mono ?_
  rintro e w2 ⟨rfl, hp2, hg2⟩
  go_wp2_with (fail)
  go_ret2
  exact ⟨rfl, below_of_own hb1 hg hg2⟩

set_option maxHeartbeats 1600000 in
theorem wlive_any (w : World) : Calls Try.prog 9 #[] w fun e w' => e = .returned (.bool true) ∧ Below w.heap.size w w' := by
  have ok0 : WarmOk (madeS 100 10) := made_ok ⟨by decide, by decide, by decide, by decide⟩
  have g0 : fillS (madeS 100 10) 0 0 = ⟨100, 10, 1000, 0, 0⟩ := by kernel_rfl
  have ok1 := fillS_ok ok0 0 0
  rw [g0] at ok1
  have Hn := Lib.hid (fun w => wnew_any 100 10 w (by decide) (by decide) (by decide) (by decide))
  have Hf := Lib.hid (fun b w h => wFill_any b (madeS 100 10) 0 0 w h ok0)
  have Hr := Lib.hid (fun b w h => wRate_any b ⟨100, 10, 1000, 0, 0⟩ 1000000 33 w h ok1)
  have H1 := Lib.hid (fun b w h => wLook_any b ⟨100, 10, 1000, 0, 0⟩ 5 0 32 1 w h ok1)
  have H2 := Lib.hid (fun b w h => wLook_any b ⟨100, 10, 1000, 0, 0⟩ 5 0 33 1 w h ok1)
  have Hm := Lib.hid (fun b w h => wmarks_any b ⟨100, 10, 1000, 0, 0⟩ w h)
  have Ht := Lib.hid (fun b w h => wtokens_any b ⟨100, 10, 1000, 0, 0⟩ w h)
  rw [g0, show fillV (madeS 100 10) 0 0 = 33 by kernel_rfl, show lookE (madeS 100 10) 0 [0] = 0 by kernel_rfl] at Hf
  rw [show fillV ⟨100, 10, 1000, 0, 0⟩ 1000000 33 = 34 by kernel_rfl, show lookE ⟨100, 10, 1000, 0, 0⟩ 1000000 [33] = 0 by kernel_rfl] at Hr
  rw [show takeB ⟨100, 10, 1000, 0, 0⟩ 5 0 32 1 = true by kernel_rfl, show takeE ⟨100, 10, 1000, 0, 0⟩ 5 0 32 1 = 0 by kernel_rfl] at H1
  rw [show takeB ⟨100, 10, 1000, 0, 0⟩ 5 0 33 1 = false by kernel_rfl, show takeE ⟨100, 10, 1000, 0, 0⟩ 5 0 33 1 = 0 by kernel_rfl] at H2
  rw [show warnOf ⟨100, 10, 1000, 0, 0⟩ = 500 by kernel_rfl, show allOf ⟨100, 10, 1000, 0, 0⟩ = 1000 by kernel_rfl] at Hm
  clear ok0 ok1 g0
  go_enter Try.func9, Try.ntmps9
  go_wp2_with (fail)
  refine (Hn.out _).mono ?_
  rintro e v1 (⟨_, b, rfl, hb, hp, hbel⟩ | ⟨hn, _⟩)
  · have HP := Lib.hid hp
    clear hp
    go_wp2_with (fail)
    refine (Hf.out b _ HP.out).mono ?_
    rintro e v2 ⟨rfl, hp2, hg2⟩
    have HP2 := Lib.hid hp2
    have L2 := below_of_own hbel hb hg2
    clear hp2
    go_wp2_with (fail)
    refine (Hr.out b _ HP2.out).mono ?_
    rintro e v3 ⟨rfl, hb3⟩
    have HP3 := Lib.hid (HP2.out.below hb3)
    have L3 := L2.trans (hb3.mono L2.size)
    go_wp2_with (fail)
    refine (H1.out b _ HP3.out).mono ?_
    rintro e v4 ⟨rfl, hb4⟩
    have HP4 := Lib.hid (HP3.out.below hb4)
    have L4 := L3.trans (hb4.mono L3.size)
    go_wp2_with (fail)
    refine (H2.out b _ HP4.out).mono ?_
    rintro e v5 ⟨rfl, hb5⟩
    have HP5 := Lib.hid (HP4.out.below hb5)
    have L5 := L4.trans (hb5.mono L4.size)
    go_wp2_with (fail)
    refine (Hm.out b _ HP5.out).mono ?_
    rintro e v6 ⟨rfl, hb6⟩
    have HP6 := Lib.hid (HP5.out.below hb6)
    have L6 := L5.trans (hb6.mono L5.size)
    go_wp2_with (fail)
    refine (Ht.out b _ HP6.out).mono ?_
    rintro e v7 ⟨rfl, rfl⟩
    go_wp2_with (fail)
    go_ret
    exact ⟨rfl, L6⟩
  · exfalso; exact hn ⟨by decide, by decide, by decide, by decide⟩

set_option maxHeartbeats 1600000 in
theorem wnone_walk (w : World) (a : Int) (wa : (Lit.int .i64 a).wf = true) (n : Int) (wn : (Lit.int .i64 n).wf = true) :
    Calls Try.prog 6 #[.int .i64 a, .int .i64 n] w fun e w' => e = .returned (.bool true) ∧ Below w.heap.size w w' := by
  clear wa wn
  go_enter Try.func6, Try.ntmps6
  go_wp2_with (fail)
  refine (wFill_nil a n _).mono ?_
  rintro e w1 ⟨rfl, h1⟩
  go_wp2_with (fail)
  refine (wRate_nil a n _).mono ?_
  rintro e w2 ⟨rfl, h2⟩
  go_wp2_with (fail)
  refine (wLook_nil a n n n _).mono ?_
  rintro e w3 ⟨rfl, h3⟩
  go_wp2_with (fail)
  refine (wTake_nil a n n n _).mono ?_
  rintro e w4 ⟨rfl, h4⟩
  go_wp2_with (fail)
  refine (wmarks_nil _).mono ?_
  rintro e w5 ⟨rfl, rfl⟩
  go_wp2_with (fail)
  refine (wlive_any _).mono ?_
  rintro e w6 ⟨rfl, h6⟩
  go_wp2_with (fail)
  refine (wtokens_nil _).mono ?_
  rintro e w7 ⟨rfl, rfl⟩
  go_wp2_with (fail)
  refine (wlast_nil _).mono ?_
  rintro e w8 ⟨rfl, rfl⟩
  go_wp2_with (fail)
  refine (wfork_nil _).mono ?_
  rintro e w9 ⟨rfl, rfl⟩
  go_wp2_with (fail)
  go_ret
  have B2 := h1.trans (h2.mono h1.size)
  have B3 := B2.trans (h3.mono B2.size)
  have B4 := B3.trans (h4.mono B3.size)
  exact ⟨rfl, B4.trans (h6.mono B4.size)⟩
end Go.Proofs.Ytfcmacibblkdkaa
