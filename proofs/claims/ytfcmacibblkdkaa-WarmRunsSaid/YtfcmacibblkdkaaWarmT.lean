/- The reference of the layer warmup: Rate, Fill, Look, Take. -/
import Derived.Test.YtfcmacibblkdkaaWarmS
namespace Go.Proofs.Ytfcmacibblkdkaa
open Go.RowKit
set_option linter.unusedVariables false
set_option linter.unusedSimpArgs false

def inI (n : Int) : Prop := -9223372036854775808 ≤ n ∧ n ≤ 9223372036854775807
theorem i64s_one {a : Int} (h : inI a) : I64s [a] := by intro y hy; simp at hy; subst hy; exact h
theorem i64s_two {a b : Int} (h : inI a) (k : inI b) : I64s [a, b] := by intro y hy; simp at hy; rcases hy with rfl | rfl; exact h; exact k

theorem rwrong_one (b : Nat) (s : WarmS) (x past : Int) (bl : Nat) (w : World) (h : RWarmAt w b s) (hp : inI past) (hlt : bl < w.heap.size) (hc : w.cell? ⟨bl, 0, none⟩ = some (.int .i64 past)) :
    Calls Try.prog 41 #[.pointer (some ⟨b, 0, none⟩), .int .i64 x, .slice (some ⟨bl, 0, none⟩) 1 1] w fun e w' => e = .returned (.int .i64 (lookE s x [past])) ∧ Below w.heap.size w w' := by
  refine rwrong_any b s x bl 0 1 1 [past] w h rfl (by decide) (i64s_one hp) hlt (fun j hj => ?_)
  have : j = 0 := by simp at hj; omega
  subst this; exact hc
theorem rwrong_two (b : Nat) (s : WarmS) (x past now : Int) (bl : Nat) (w : World) (h : RWarmAt w b s) (hp : inI past) (hn : inI now) (hlt : bl < w.heap.size) (hc : w.cell? ⟨bl, 0, none⟩ = some (.int .i64 past)) (hd : w.cell? ⟨bl, 1, none⟩ = some (.int .i64 now)) :
    Calls Try.prog 41 #[.pointer (some ⟨b, 0, none⟩), .int .i64 x, .slice (some ⟨bl, 0, none⟩) 2 2] w fun e w' => e = .returned (.int .i64 (lookE s x [past, now])) ∧ Below w.heap.size w w' := by
  refine rwrong_any b s x bl 0 2 2 [past, now] w h rfl (by decide) (i64s_two hp hn) hlt (fun j hj => ?_)
  have : j = 0 ∨ j = 1 := by simp at hj; omega
  rcases this with rfl | rfl
  · exact hc
  · exact hd

set_option maxHeartbeats 1600000 in
theorem rwRate_any (b : Nat) (s : WarmS) (x past : Int) (w : World) (h : RWarmAt w b s) (hok : WarmOk s) (hp : inI past) :
    Calls Try.prog 33 #[.pointer (some ⟨b, 0, none⟩), .int .i64 x, .int .i64 past] w fun e w' => e = .returned (.tuple #[.int .i64 (fillV s x past), .int .i64 (lookE s x [past])]) ∧ Below w.heap.size w w' := by
  have Hlk := Lib.hid (fun (w : World) (h : RWarmAt w b s) (bl : Nat) hlt hc => rwrong_one b s x past bl w h hp hlt hc)
  have H := Lib.hid h
  clear h
  by_cases he : lookE s x [past] = 0
  · obtain ⟨x0, x1, hx, p0, p1⟩ := look_one he
    have e1 : fillV s x past = rateN s (fillN s x past) := by unfold fillV; rw [if_pos he]
    have hb := fillN_bd hok hx p0
    have Hf := Lib.hid (fun (w : World) (h : RWarmAt w b s) => rfilled_any b s x past w h hok x0 x1 hx p0 p1)
    have Hr := Lib.hid (fun (w : World) (h : RWarmAt w b s) => rwrate_any b s (fillN s x past) w h hok hb.1 hb.2)
    rw [e1]
    rw [he] at Hlk ⊢
    clear he hb e1 hp
    generalize fillN s x past = T at *
    generalize secOf x = SEC at *
    generalize rateN s T = R at *
    go_enter Try.func33, Try.ntmps33
    go_wp2_with (fail)
    have B1 := (Below.refl w.heap.size w).alloc (Nat.le_refl _) (.cells #[.int .i64 past] 3)
    refine (Hlk.out _ (H.out.below B1) _ (by simp) (by simp [go_sem])).mono ?_
    rintro e w1 ⟨rfl, hb1⟩
    have L1 := B1.trans (hb1.mono B1.size)
    go_wp2_with (fail)
    refine (Hf.out _ (H.out.below L1)).mono ?_
    rintro e w2 ⟨rfl, hb2⟩
    have L2 := L1.trans (hb2.mono L1.size)
    go_wp2_with (fail)
    refine (Hr.out _ (H.out.below L2)).mono ?_
    rintro e w3 ⟨rfl, hb3⟩
    have L3 := L2.trans (hb3.mono L2.size)
    go_wp2_with (fail)
    go_ret2
    exact ⟨rfl, L3⟩
  · have e1 : fillV s x past = 0 := by unfold fillV; rw [if_neg he]
    rw [e1]
    clear e1 hp
    generalize lookE s x [past] = LE at *
    go_enter Try.func33, Try.ntmps33
    go_wp2_with (fail)
    have B1 := (Below.refl w.heap.size w).alloc (Nat.le_refl _) (.cells #[.int .i64 past] 3)
    refine (Hlk.out _ (H.out.below B1) _ (by simp) (by simp [go_sem])).mono ?_
    rintro e w1 ⟨rfl, hb1⟩
    have L1 := B1.trans (hb1.mono B1.size)
    go_wp2_with (fail)
    go_ret2
    exact ⟨rfl, L1⟩

set_option maxHeartbeats 1600000 in
theorem rwFill_any (b : Nat) (s : WarmS) (x past : Int) (w : World) (h : RWarmAt w b s) (hok : WarmOk s) (hp : inI past) :
    Calls Try.prog 30 #[.pointer (some ⟨b, 0, none⟩), .int .i64 x, .int .i64 past] w fun e w' => e = .returned (.tuple #[.int .i64 (fillV s x past), .int .i64 (lookE s x [past])]) ∧ RWarmAt w' b (fillS s x past) ∧ w.grownBy w' (some b) := by
  have Hrt := Lib.hid (fun (w : World) (h : RWarmAt w b s) => rwRate_any b s x past w h hok hp)
  have H := Lib.hid h
  have lt := h.lt
  clear h
  by_cases he : lookE s x [past] = 0
  · obtain ⟨x0, x1, hx, p0, p1⟩ := look_one he
    have e2 : fillS s x past = filledS s x past := by unfold fillS; rw [if_pos he]
    have Hf := Lib.hid (fun (w : World) (h : RWarmAt w b s) => rfilled_any b s x past w h hok x0 x1 hx p0 p1)
    have HS := Lib.hid (show filledS s x past = { s with tokens := fillN s x past, filled := secOf x, last := x } from rfl)
    rw [e2]
    rw [he] at Hrt ⊢
    clear he e2 hp
    generalize fillV s x past = R at *
    generalize fillN s x past = T at *
    generalize secOf x = SEC at *
    go_enter Try.func30, Try.ntmps30
    go_wp2_with (fail)
    refine (Hrt.out _ H.out).mono ?_
    rintro e w1 ⟨rfl, hb1⟩
    go_wp2_with (fail)
    refine (Hf.out _ (H.out.below hb1)).mono ?_
    rintro e w2 ⟨rfl, hb2⟩
    have L2 := hb1.trans (hb2.mono hb1.size)
    obtain ⟨c0, c1, c2, c3, c4, fr, lt1⟩ := H.out.below L2
    have f2 := fr 2
    have f3 := fr 3
    have f4 := fr 4
    go_wp2_with (fail)
    go_ret2
    exact ⟨rfl, by
      rw [HS.out]
      exact ⟨by simp [go_sem, c0, f2, f3, f4], by simp [go_sem, c1, f2, f3, f4], by simp [go_sem, c2, f2, f3, f4], by simp [go_sem, c3, f2, f3, f4], by simp [go_sem, c4, f2, f3, f4], by simp [go_sem, fr], by simp [go_sem]; omega⟩, grown_set (grown_set (grown_set (grown_below L2 _) _ _) _ _) _ _⟩
  · have e2 : fillS s x past = s := by unfold fillS; rw [if_neg he]
    have e1 : fillV s x past = 0 := by unfold fillV; rw [if_neg he]
    rw [e1] at Hrt ⊢
    rw [e2]
    clear e1 e2 hp
    generalize lookE s x [past] = LE at *
    go_enter Try.func30, Try.ntmps30
    go_wp2_with (fail)
    refine (Hrt.out _ H.out).mono ?_
    rintro e w1 ⟨rfl, hb1⟩
    go_wp2_with (fail)
    go_ret2
    exact ⟨rfl, H.out.below hb1, grown_below hb1 _⟩

set_option maxHeartbeats 1600000 in
theorem rwLook_any (b : Nat) (s : WarmS) (x past now n : Int) (w : World) (h : RWarmAt w b s) (hok : WarmOk s) (hp : inI past) (hn : inI now) :
    Calls Try.prog 32 #[.pointer (some ⟨b, 0, none⟩), .int .i64 x, .int .i64 past, .int .i64 now, .int .i64 n] w fun e w' => e = .returned (.tuple #[.bool (takeB s x past now n), .int .i64 (takeE s x past now n)]) ∧ Below w.heap.size w w' := by
  have Hlk := Lib.hid (fun (w : World) (h : RWarmAt w b s) (bl : Nat) hlt hc hd => rwrong_two b s x past now bl w h hp hn hlt hc hd)
  have Hrt := Lib.hid (fun (w : World) (h : RWarmAt w b s) => rwRate_any b s x past w h hok hp)
  have H := Lib.hid h
  clear h
  have hno : takeE s x past now n ≠ 0 → takeB s x past now n = false := fun hh => by unfold takeB; rw [decide_eq_false hh]; rfl
  by_cases hn1 : n < 1
  · have hE : takeE s x past now n = 2 := by unfold takeE; rw [if_pos (Or.inl hn1)]
    rw [hE, hno (by rw [hE]; decide)]
    clear hE hno hp hn
    go_enter Try.func32, Try.ntmps32
    go_wp2_with (fail)
    go_ret2
    exact ⟨rfl, Below.refl _ _⟩
  by_cases hn2 : 1099511627776 < n
  · have hE : takeE s x past now n = 2 := by unfold takeE; rw [if_pos (Or.inr hn2)]
    rw [hE, hno (by rw [hE]; decide)]
    clear hE hno hp hn
    go_enter Try.func32, Try.ntmps32
    go_wp2_with (fail)
    go_ret2
    exact ⟨rfl, Below.refl _ _⟩
  have hE : takeE s x past now n = lookE s x [past, now] := by unfold takeE; rw [if_neg (by omega)]
  have B1 := (Below.refl w.heap.size w).alloc (Nat.le_refl _) (.cells #[.int .i64 past, .int .i64 now] 3)
  by_cases h0 : lookE s x [past, now] = 0
  · obtain ⟨hl, n0, n1⟩ := look_two h0
    obtain ⟨x0, x1, hx, p0, p1⟩ := look_one hl
    have hb := fillN_bd hok hx p0
    have hr := rateN_bd hok hb.2
    have hc := hok.c2
    have e1 : fillV s x past = rateN s (fillN s x past) := by unfold fillV; rw [if_pos hl]
    have e4 : takeB s x past now n = decide (now ≤ rateN s (fillN s x past) - n) := by unfold takeB; rw [decide_eq_true (hE.trans h0)]; rfl
    rw [hE, h0, e4]
    rw [e1, hl] at Hrt
    rw [h0] at Hlk
    clear e1 e4 hE hno hl h0 hb hp hn
    generalize rateN s (fillN s x past) = R at *
    go_enter Try.func32, Try.ntmps32
    go_wp2_with (fail)
    refine (Hlk.out _ (H.out.below B1) _ (by simp) (by simp [go_sem]) (by simp [go_sem])).mono ?_
    rintro e w1 ⟨rfl, hb1⟩
    have L1 := B1.trans (hb1.mono B1.size)
    go_wp2_with (fail)
    refine (Hrt.out _ (H.out.below L1)).mono ?_
    rintro e w2 ⟨rfl, hb2⟩
    have L2 := L1.trans (hb2.mono L1.size)
    go_wp2_with (fail)
    go_ret2
    exact ⟨rfl, L2⟩
  · rw [hE, hno (by rw [hE]; exact h0)]
    clear hE hno Hrt hp hn
    generalize lookE s x [past, now] = LE at *
    go_enter Try.func32, Try.ntmps32
    go_wp2_with (fail)
    refine (Hlk.out _ (H.out.below B1) _ (by simp) (by simp [go_sem]) (by simp [go_sem])).mono ?_
    rintro e w1 ⟨rfl, hb1⟩
    have L1 := B1.trans (hb1.mono B1.size)
    go_wp2_with (fail)
    go_ret2
    exact ⟨rfl, L1⟩

set_option maxHeartbeats 1600000 in
theorem rwTake_any (b : Nat) (s : WarmS) (x past now n : Int) (w : World) (h : RWarmAt w b s) (hok : WarmOk s) (hp : inI past) (hn : inI now) :
    Calls Try.prog 31 #[.pointer (some ⟨b, 0, none⟩), .int .i64 x, .int .i64 past, .int .i64 now, .int .i64 n] w fun e w' => e = .returned (.tuple #[.bool (takeB s x past now n), .int .i64 (takeE s x past now n)]) ∧ RWarmAt w' b (takeS s x past now n) ∧ w.grownBy w' (some b) := by
  have Hlo := Lib.hid (fun (w : World) (h : RWarmAt w b s) => rwLook_any b s x past now n w h hok hp hn)
  have Hfi := Lib.hid (fun (w : World) (h : RWarmAt w b s) => rwFill_any b s x past w h hok hp)
  have H := Lib.hid h
  clear h
  by_cases hE : takeE s x past now n = 0
  · have hl := (look_two (takeE_zero hE).2.2).1
    have e2 : fillS s x past = filledS s x past := by unfold fillS; rw [if_pos hl]
    have e3 : takeS s x past now n = filledS s x past := by unfold takeS; rw [if_pos hE]
    rw [hE] at Hlo ⊢
    rw [e2] at Hfi
    rw [e3]
    clear hE hl e2 e3 hp hn
    generalize takeB s x past now n = TB at *
    generalize filledS s x past = s' at *
    generalize fillV s x past = FV at *
    generalize lookE s x [past] = LE at *
    go_enter Try.func31, Try.ntmps31
    go_wp2_with (fail)
    refine (Hlo.out _ H.out).mono ?_
    rintro e w1 ⟨rfl, hb1⟩
    go_wp2_with (fail)
    refine (Hfi.out _ (H.out.below hb1)).mono ?_
    rintro e w2 ⟨rfl, hp2, hg2⟩
    have HP := Lib.hid hp2
    clear hp2
    go_wp2_with (fail)
    go_ret2
    exact ⟨rfl, HP.out, grown_trans (grown_below hb1 _) hg2⟩
  · have e3 : takeS s x past now n = s := by unfold takeS; rw [if_neg hE]
    rw [e3]
    clear e3 Hfi hp hn
    generalize takeB s x past now n = TB at *
    generalize takeE s x past now n = TE at *
    go_enter Try.func31, Try.ntmps31
    go_wp2_with (fail)
    refine (Hlo.out _ H.out).mono ?_
    rintro e w1 ⟨rfl, hb1⟩
    go_wp2_with (fail)
    go_ret2
    exact ⟨rfl, H.out.below hb1, grown_below hb1 _⟩
end Go.Proofs.Ytfcmacibblkdkaa
