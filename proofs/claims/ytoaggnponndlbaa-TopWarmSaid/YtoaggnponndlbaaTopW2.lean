/- TopWarm: a warm-up never lets more pass than a rule of the same count that rejects would. -/
import Derived.Test.YtoaggnponndlbaaWarmD
import Derived.Test.YtoaggnponndlbaaPasses
import Derived.Test.YtoaggnponndlbaaRecs
import Derived.Deep.RegionWith
namespace Go.Proofs.Ytoaggnponndlbaa
open Go.RowKit
set_option linter.unusedVariables false
set_option linter.unusedSimpArgs false

/-- Behind a taking the rate told at the same time is the rate by which it was decided. -/
theorem again_law {s : WarmS} (h : WarmOk s) {x now n : Int} (he : takeE s x 0 now n = 0) :
    lookE (takeS s x 0 now n) x [0] = 0 ∧ fillV (takeS s x 0 now n) x 0 = rateN s (fillN s x 0) ∧ (takeB s x 0 now n = true ↔ now ≤ rateN s (fillN s x 0) - n) ∧ 1 ≤ rateN s (fillN s x 0) ∧ rateN s (fillN s x 0) ≤ s.count ∧ 0 ≤ now ∧ now ≤ 4611686018427387904 := by
  obtain ⟨n1, n2, hl⟩ := takeE_zero he
  obtain ⟨hl, w0, w1⟩ := look_two hl
  obtain ⟨x0, x1, hx, p0, p1⟩ := look_one hl
  have eS : takeS s x 0 now n = filledS s x 0 := by unfold takeS; rw [if_pos he]
  have hb := fillN_bd h hx p0
  have hr := rateN_bd h hb.2
  have hl2 : lookE (filledS s x 0) x [0] = 0 := by
    unfold lookE
    have : [(0 : Int)].all mayB = true := by decide
    rw [if_neg (by omega), this, if_pos rfl, if_neg (by show ¬ x < x; omega)]
  have hN : fillN (filledS s x 0) x 0 = fillN s x 0 := by
    show (if secOf x = (filledS s x 0).filled then (filledS s x 0).tokens else _) = _
    rw [if_pos (show secOf x = (filledS s x 0).filled from rfl)]; rfl
  rw [eS]
  refine ⟨hl2, ?_, ?_, hr.1, hr.2.1, w0, w1⟩
  · unfold fillV; rw [if_pos hl2, hN]; rfl
  · unfold takeB; rw [decide_eq_true he]; simp

set_option maxHeartbeats 3200000 in
set_option maxRecDepth 100000 in
theorem twarm_walk (w : World) (count : Int) (wc : (Lit.int .i64 count).wf = true) (seconds : Int) (ws : (Lit.int .i64 seconds).wf = true) (a : Option Addr) (len cap : Nat) (V : Nat → Nat → Value) (hm : len ≤ 140737488351232) (hr : RecsAt w a 2 len V)
    (f0 : ∀ j, j < len → V j 0 = .int .i64 (intOf (V j 0)) ∧ (Lit.int .i64 (intOf (V j 0))).wf = true) (f1 : ∀ j, j < len → V j 1 = .int .i64 (intOf (V j 1)) ∧ (Lit.int .i64 (intOf (V j 1))).wf = true) :
    Calls Try.prog 4 #[.int .i64 count, .int .i64 seconds, .slice a len cap] w fun e w' => e = .returned (.bool true) ∧ Below w.heap.size w w' := by
  obtain ⟨c0, c1⟩ := wf64 wc
  obtain ⟨q0, q1⟩ := wf64 ws
  have Hr := Lib.hid hr
  have F0 := Lib.hid f0
  have F1 := Lib.hid f1
  clear wc ws hr f0 f1
  go_enter Try.func4, Try.ntmps4
  go_wp2_with (fail)
  refine (wnew_any count seconds _ c0 c1 q0 q1).mono ?_
  rintro e v1 (⟨hmay, b, rfl, hb, hp, hbel⟩ | ⟨hn, rfl, hbel⟩)
  · have HP := Lib.hid hp
    have Hmay := Lib.hid hmay
    have hbw : w.heap.size ≤ b := hb
    clear hp hmay hb
    go_wp2_with (fail)
    have B1 : Below w.heap.size w (v1.alloc (.cells #[.string ⟨#[97]⟩, .string ⟨#[100, 101, 102, 97, 117, 108, 116]⟩, .bool false, .int .i64 count, .int .u8 0, .string ⟨#[]⟩, .int .u8 0, .int .i64 0, .int .i64 0, .bool false, .int .i64 0, .bool false] 40)) := hbel.alloc hbel.size _
    have P1 := Lib.hid (HP.out.below ((Below.refl _ _).alloc (Nat.le_refl _) (.cells #[.string ⟨#[97]⟩, .string ⟨#[100, 101, 102, 97, 117, 108, 116]⟩, .bool false, .int .i64 count, .int .u8 0, .string ⟨#[]⟩, .int .u8 0, .int .i64 0, .int .i64 0, .bool false, .int .i64 0, .bool false] 40)))
    have R1 : (v1.alloc (.cells #[.string ⟨#[97]⟩, .string ⟨#[100, 101, 102, 97, 117, 108, 116]⟩, .bool false, .int .i64 count, .int .u8 0, .string ⟨#[]⟩, .int .u8 0, .int .i64 0, .int .i64 0, .bool false, .int .i64 0, .bool false] 40)).heap[v1.heap.size]? = some (.cells #[.string ⟨#[97]⟩, .string ⟨#[100, 101, 102, 97, 117, 108, 116]⟩, .bool false, .int .i64 count, .int .u8 0, .string ⟨#[]⟩, .int .u8 0, .int .i64 0, .int .i64 0, .bool false, .int .i64 0, .bool false] 40) := heap_alloc_new v1 _
    have hrw : w.heap.size ≤ v1.heap.size := hbel.size
    have hrb : v1.heap.size ≠ b := by have := HP.out.lt; omega
    have hrl : v1.heap.size < (v1.alloc (.cells #[.string ⟨#[97]⟩, .string ⟨#[100, 101, 102, 97, 117, 108, 116]⟩, .bool false, .int .i64 count, .int .u8 0, .string ⟨#[]⟩, .int .u8 0, .int .i64 0, .int .i64 0, .bool false, .int .i64 0, .bool false] 40)).heap.size := by simp
    have HRR := Lib.hid R1
    generalize v1.alloc (.cells #[.string ⟨#[97]⟩, .string ⟨#[100, 101, 102, 97, 117, 108, 116]⟩, .bool false, .int .i64 count, .int .u8 0, .string ⟨#[]⟩, .int .u8 0, .int .i64 0, .int .i64 0, .bool false, .int .i64 0, .bool false] 40) = W1 at *
    generalize v1.heap.size = rb at *
    clear R1 hbel
    have HO := Lib.hid (made_ok Hmay.out)
    go_loopw [10] (fun i wr => ∃ (k : Nat) (s : WarmS), k ≤ len ∧ i = .int .i64 k ∧ Hid (WarmAt wr b s) ∧ Hid (WarmOk s ∧ s.count = count ∧ s.seconds = seconds) ∧ Hid (wr.heap[rb]? = some (.cells #[.string ⟨#[97]⟩, .string ⟨#[100, 101, 102, 97, 117, 108, 116]⟩, .bool false, .int .i64 count, .int .u8 0, .string ⟨#[]⟩, .int .u8 0, .int .i64 0, .int .i64 0, .bool false, .int .i64 0, .bool false] 40)) ∧ rb < wr.heap.size ∧ Below w.heap.size w wr) (fun i _ => len - (intOf i).toNat)
    case atStart => exact ⟨0, madeS count seconds, Nat.zero_le _, rfl, P1, ⟨HO.out, rfl, rfl⟩, HRR, hrl, B1⟩
    case round =>
      obtain ⟨k, s, hk, rfl, HW, HS, HR, hrs, hbr⟩ := hrel
      by_cases hlt : k < len ∧ k < 100
      · obtain ⟨hlt, hlt100⟩ := hlt
        rcases Hr.out with h | ⟨bl, ol, rfl, hbl, hcell⟩
        · omega
        · have d0w : w.cell? ⟨bl, ol + k * 2, none⟩ = some (V k 0) := by have := hcell k hlt 0 (by decide); rwa [Nat.add_zero] at this
          have d1w : w.cell? ⟨bl, ol + k * 2 + 1, none⟩ = some (V k 1) := by rw [Nat.add_assoc]; exact hcell k hlt 1 (by decide)
          rw [(F0.out k hlt).1] at d0w
          rw [(F1.out k hlt).1] at d1w
          obtain ⟨p0, p1⟩ := wf64 (F1.out k hlt).2
          generalize intOf (V k 0) = X at *
          generalize intOf (V k 1) = PS at *
          have k0 : (0 : Int) ≤ k := by omega
          have k1 : (k : Int) < len := by omega
          have D := Lib.hid (fun (wx : World) (h : Below w.heap.size w wx) => (show wx.cell? ⟨bl, ol + k * 2, none⟩ = some (.int .i64 X) ∧ wx.cell? ⟨bl, ol + k * 2 + 1, none⟩ = some (.int .i64 PS) from
            ⟨(h.cell (p := ⟨bl, ol + k * 2, none⟩) hbl).trans d0w, (h.cell (p := ⟨bl, ol + k * 2 + 1, none⟩) hbl).trans d1w⟩))
          clear d0w d1w hcell
          obtain ⟨d0, d1⟩ := D.out wr hbr
          have Htk := Lib.hid (fun w h => wTake_any b s X 0 PS 1 w h HS.out.1)
          have hok' := takeS_ok HS.out.1 X 0 PS 1
          have hsm : (takeS s X 0 PS 1).count = count ∧ (takeS s X 0 PS 1).seconds = seconds := by
            have : (takeS s X 0 PS 1).count = s.count ∧ (takeS s X 0 PS 1).seconds = s.seconds := by unfold takeS; split <;> exact ⟨rfl, rfl⟩
            exact ⟨this.1.trans HS.out.2.1, this.2.trans HS.out.2.2⟩
          have HS2 : Hid (WarmOk (takeS s X 0 PS 1) ∧ (takeS s X 0 PS 1).count = count ∧ (takeS s X 0 PS 1).seconds = seconds) := ⟨hok', hsm⟩
          have Hag := Lib.hid (fun he => again_law (s := s) HS.out.1 (x := X) (now := PS) (n := 1) he)
          have Hrt := Lib.hid (fun w h => wRate_any b (takeS s X 0 PS 1) X 0 w h hok')
          rw [HS.out.2.1] at Hag
          clear hok' hsm
          generalize takeB s X 0 PS 1 = TB at *
          generalize takeE s X 0 PS 1 = TE at *
          generalize takeS s X 0 PS 1 = s' at *
          generalize fillV s' X 0 = FV at *
          generalize lookE s' X [0] = LE at *
          generalize rateN s (fillN s X 0) = R at *
          go_wp2_with (fail)
          refine (Htk.out _ HW.out).mono ?_
          rintro e w2 ⟨rfl, hp2, hg2⟩
          have HW2 := Lib.hid hp2
          have M2 : Below w.heap.size w w2 := below_of_own hbr hbw hg2
          have HR2 : Hid (w2.heap[rb]? = some (.cells #[.string ⟨#[97]⟩, .string ⟨#[100, 101, 102, 97, 117, 108, 116]⟩, .bool false, .int .i64 count, .int .u8 0, .string ⟨#[]⟩, .int .u8 0, .int .i64 0, .int .i64 0, .bool false, .int .i64 0, .bool false] 40)) := (hg2.block rb hrs (by simp; omega)).trans HR.out
          have hrs2 : rb < w2.heap.size := Nat.lt_of_lt_of_le hrs hg2.size
          clear d0 d1 hg2 hp2
          obtain ⟨d0, d1⟩ := D.out _ M2
          by_cases hTE : TE = 0
          · obtain ⟨g1, g2, g3, g4, g5, g6, g7⟩ := Hag.out hTE
            subst hTE
            subst g1
            subst g2
            go_wp2_with (fail)
            refine (Hrt.out _ HW2.out).mono ?_
            rintro e w3 ⟨rfl, hq⟩
            go_upto_region 14 with (fail)
            have M3 := M2.trans (hq.mono M2.size)
            have HW3 := Lib.hid (HW2.out.below hq)
            have HR3 : Hid (w3.heap[rb]? = some (.cells #[.string ⟨#[97]⟩, .string ⟨#[100, 101, 102, 97, 117, 108, 116]⟩, .bool false, .int .i64 count, .int .u8 0, .string ⟨#[]⟩, .int .u8 0, .int .i64 0, .int .i64 0, .bool false, .int .i64 0, .bool false] 40)) := (hq.block rb hrs2).trans HR2.out
            have hrs3 : rb < w3.heap.size := Nat.lt_of_lt_of_le hrs2 hq.size
            have HPS := Lib.hid (fun w => passes_any ⟨#[97]⟩ ⟨#[100, 101, 102, 97, 117, 108, 116]⟩ false count 0 ⟨#[]⟩ 0 0 0 false 0 false PS 0 1 w c0 c1 p0 p1 (by decide) (by decide))
            have RC := Lib.hid (fun (wx : World) (h : wx.heap[rb]? = some (.cells #[.string ⟨#[97]⟩, .string ⟨#[100, 101, 102, 97, 117, 108, 116]⟩, .bool false, .int .i64 count, .int .u8 0, .string ⟨#[]⟩, .int .u8 0, .int .i64 0, .int .i64 0, .bool false, .int .i64 0, .bool false] 40)) (o : Nat) (v : Value) (hv : (#[.string ⟨#[97]⟩, .string ⟨#[100, 101, 102, 97, 117, 108, 116]⟩, .bool false, .int .i64 count, .int .u8 0, .string ⟨#[]⟩, .int .u8 0, .int .i64 0, .int .i64 0, .bool false, .int .i64 0, .bool false] : Array Value)[o]? = some v) => (show wx.cell? ⟨rb, o, none⟩ = some v by simp only [World.cell?, h]; exact hv))
            clear hq d0 d1
            have r0 := RC.out _ HR3.out 0 _ rfl
            have r1 := RC.out _ HR3.out 1 _ rfl
            have r2 := RC.out _ HR3.out 2 _ rfl
            have r3 := RC.out _ HR3.out 3 _ rfl
            have r4 := RC.out _ HR3.out 4 _ rfl
            have r5 := RC.out _ HR3.out 5 _ rfl
            have r6 := RC.out _ HR3.out 6 _ rfl
            have r7 := RC.out _ HR3.out 7 _ rfl
            have r8 := RC.out _ HR3.out 8 _ rfl
            have r9 := RC.out _ HR3.out 9 _ rfl
            have r10 := RC.out _ HR3.out 10 _ rfl
            have r11 := RC.out _ HR3.out 11 _ rfl
            cases TB with
            | true =>
              have hlt2 : PS < FV := by have := g3.1 rfl; omega
              have hpa : passB false count PS 0 1 = true := decide_eq_true (by omega)
              rw [hpa] at HPS
              clear hpa g3
              go_wp2_with (fail)
              refine (HPS.out _).mono ?_
              rintro e w4 ⟨rfl, hb4⟩
              have M4 := M3.trans (hb4.mono M3.size)
              have HW4 := Lib.hid (HW3.out.below hb4)
              have HR4 : Hid (w4.heap[rb]? = some (.cells #[.string ⟨#[97]⟩, .string ⟨#[100, 101, 102, 97, 117, 108, 116]⟩, .bool false, .int .i64 count, .int .u8 0, .string ⟨#[]⟩, .int .u8 0, .int .i64 0, .int .i64 0, .bool false, .int .i64 0, .bool false] 40)) := (hb4.block rb hrs3).trans HR3.out
              have hrs4 : rb < w4.heap.size := Nat.lt_of_lt_of_le hrs3 hb4.size
              clear r0 r1 r2 r3 r4 r5 r6 r7 r8 r9 r10 r11 hb4
              go_wp2_with (fail)
              exact ⟨⟨k + 1, s', by omega, by go_num, HW4, HS2, HR4, hrs4, M4⟩, by simp [intOf]; omega⟩
            | false =>
              have hlt2 : ¬ PS < FV := by
                intro hh
                have := g3.2 (by omega)
                simp at this
              clear g3 r0 r1 r2 r3 r4 r5 r6 r7 r8 r9 r10 r11
              go_wp2_with (fail)
              exact ⟨⟨k + 1, s', by omega, by go_num, HW3, HS2, HR3, hrs3, M3⟩, by simp [intOf]; omega⟩
          · have hTb : (TE != 0) = true := by simp [hTE]
            go_wp2_with (fail)
            exact ⟨⟨k + 1, s', by omega, by go_num, HW2, HS2, HR2, hrs2, M2⟩, by simp [intOf]; omega⟩
      · have hend : Hid (Below w.heap.size w wr) := hbr
        have Hmk := Lib.hid (fun w h => wmarks_any b s w h)
        have Htt := Lib.hid (fun w h => wtokens_any b s w h)
        have t1 := HS.out.1.t1
        have t2 := HS.out.1.t2
        have t3 := (warn_bd HS.out.1).2.1
        generalize allOf s = AL at *
        generalize warnOf s = WA at *
        generalize hTT : s.tokens = TT at *
        have HTT := Lib.hid hTT
        clear hTT
        by_cases hl : k < len
        · have k1 : (k : Int) < len := by omega
          have k2 : ¬ (k : Int) < 100 := by omega
          go_wp2_with (fail)
          refine (Hmk.out _ HW.out).mono ?_
          rintro e w4 ⟨rfl, hb4⟩
          have HW4 := Lib.hid (HW.out.below hb4)
          go_wp2_with (fail)
          refine (Htt.out _ HW4.out).mono ?_
          rintro e w5 ⟨rfl, rfl⟩
          go_wp2_with (fail)
          refine (Htt.out _ HW4.out).mono ?_
          rintro e w5 ⟨rfl, rfl⟩
          go_wp2_with (fail)
          go_ret
          exact ⟨rfl, hbr.trans (hb4.mono hbr.size)⟩
        · have hkl : k = len := by omega
          subst hkl
          go_wp2_with (fail)
          refine (Hmk.out _ HW.out).mono ?_
          rintro e w4 ⟨rfl, hb4⟩
          have HW4 := Lib.hid (HW.out.below hb4)
          go_wp2_with (fail)
          refine (Htt.out _ HW4.out).mono ?_
          rintro e w5 ⟨rfl, rfl⟩
          go_wp2_with (fail)
          refine (Htt.out _ HW4.out).mono ?_
          rintro e w5 ⟨rfl, rfl⟩
          go_wp2_with (fail)
          go_ret
          exact ⟨rfl, hbr.trans (hb4.mono hbr.size)⟩
  · have hn' : count < 1 ∨ (¬ count < 1 ∧ 1099511627776 < count) ∨ (¬ count < 1 ∧ ¬ 1099511627776 < count ∧ seconds < 1) ∨ (¬ count < 1 ∧ ¬ 1099511627776 < count ∧ ¬ seconds < 1 ∧ 3600 < seconds) := by unfold mayWarm at hn; omega
    clear hn
    rcases hn' with p1 | ⟨p1, p2⟩ | ⟨p1, p2, p3⟩ | ⟨p1, p2, p3, p4⟩
    all_goals
      go_wp2_with (fail)
      go_ret
      exact ⟨rfl, hbel⟩
end Go.Proofs.Ytoaggnponndlbaa
