/- The laws of the layer warmup: WarmRates. -/
import Derived.Test.YtfcmacibblkdkaaWarmO
namespace Go.Proofs.Ytfcmacibblkdkaa
open Go.RowKit
set_option linter.unusedVariables false
set_option linter.unusedSimpArgs false

theorem one_at (w : World) (x : Value) : ∀ j u, [x][j]? = some u → (w.alloc (.cells #[x] 3)).cell? ((⟨w.heap.size, 0, none⟩ : Addr).add j) = some u := by
  intro j u hj
  match j, hj with
  | 0, hj => simp at hj; subst hj; simp [go_sem, Addr.add]

set_option maxHeartbeats 12800000 in
set_option maxRecDepth 100000 in
theorem wrates_walk (w : World) (count : Int) (wc : (Lit.int .i64 count).wf = true) (seconds : Int) (ws : (Lit.int .i64 seconds).wf = true) (a : Option Addr) (len cap : Nat) (V : Nat → Nat → Value) (hm : len ≤ 140737488351232) (hr : RecsAt w a 5 len V)
    (f0 : ∀ j, j < len → V j 0 = .int .i64 (intOf (V j 0)) ∧ (Lit.int .i64 (intOf (V j 0))).wf = true) (f1 : ∀ j, j < len → V j 1 = .int .i64 (intOf (V j 1)) ∧ (Lit.int .i64 (intOf (V j 1))).wf = true)
    (f2 : ∀ j, j < len → V j 2 = .int .i64 (intOf (V j 2)) ∧ (Lit.int .i64 (intOf (V j 2))).wf = true) (f3 : ∀ j, j < len → V j 3 = .int .i64 (intOf (V j 3)) ∧ (Lit.int .i64 (intOf (V j 3))).wf = true)
    (f4 : ∀ j, j < len → V j 4 = .int .i64 (intOf (V j 4)) ∧ (Lit.int .i64 (intOf (V j 4))).wf = true) :
    Calls Try.prog 3 #[.int .i64 count, .int .i64 seconds, .slice a len cap] w fun e w' => e = .returned (.bool true) ∧ Below w.heap.size w w' := by
  obtain ⟨i0, hi, hz0, hz1, hz2⟩ := info_parts info_int
  obtain ⟨c0, c1⟩ := wf64 wc
  obtain ⟨q0, q1⟩ := wf64 ws
  have Hr := Lib.hid hr
  have F1 := Lib.hid f1
  have F2 := Lib.hid f2
  clear wc ws hr f0 f1 f2 f3 f4
  go_enter Try.func3, Try.ntmps3
  go_wp2_with (fail)
  refine (wlive_any _).mono ?_
  rintro e v0 ⟨rfl, hb0⟩
  go_wp2_with (fail)
  refine (wnew_any count seconds _ c0 c1 q0 q1).mono ?_
  rintro e v1 (⟨hmay, b, rfl, hb, hp, hbel⟩ | ⟨hn, rfl, hbel⟩)
  · have HP := Lib.hid hp
    have Hmay := Lib.hid hmay
    have L1 := hb0.trans (hbel.mono hb0.size)
    have hbw : w.heap.size ≤ b := by have := hb0.size; omega
    clear hp hmay hb0 hbel hb
    go_wp2_with (fail)
    have Hmk := Lib.hid (fun w h => wmarks_any b (madeS count seconds) w h)
    generalize hAL : allOf (madeS count seconds) = AL at *
    generalize warnOf (madeS count seconds) = WA at *
    have HAL := Lib.hid hAL
    clear hAL
    refine (Hmk.out _ HP.out).mono ?_
    rintro e v2 ⟨rfl, hb2⟩
    have L2 := L1.trans (hb2.mono L1.size)
    have S0 : RatesAt v2 v2.heap.size b (madeS count seconds) (.slice none 0 0) (.slice none 0 0) [] :=
      ⟨HP.out.below hb2, made_ok Hmay.out, by have := HP.out.lt; have := hb2.size; omega, World.ownsRow_nil _ _ _ _, World.ownsRow_nil _ _ _ _, by simp [Value.ownBlock], by simp⟩
    have HS0 := Lib.hid S0
    have hbase : w.heap.size ≤ v2.heap.size := L2.size
    clear S0 hb2 L1
    have hbs : v2.heap.size ≤ v2.heap.size := Nat.le_refl _
    generalize hBASE : v2.heap.size = base at HS0 hbase hbs
    go_wp2_with (fail)
    go_loopw [11, 12, 13] (fun vt vr i wr => ∃ (k : Nat) (s : WarmS) (ts : List Int), k ≤ len ∧ k ≤ 300 ∧ i = .int .i64 k ∧ Hid (RatesAt wr base b s vt vr ts) ∧ Hid (s.count = count ∧ s.seconds = seconds ∧ ts.length ≤ k) ∧ Below w.heap.size w wr ∧ base ≤ wr.heap.size) (fun _ _ i _ => len - (intOf i).toNat)
    case atStart => exact ⟨0, _, [], Nat.zero_le _, by decide, rfl, HS0, ⟨rfl, rfl, Nat.le_refl _⟩, L2, by omega⟩
    case round =>
      obtain ⟨k, s, ts, hk, hk3, rfl, HS, HE, hbr, hbz⟩ := hrel
      by_cases hlt : k < len ∧ k < 300
      · obtain ⟨hlt, hlt3⟩ := hlt
        rcases Hr.out with h | ⟨bl, ol, rfl, hbl, hcell⟩
        · omega
        · have d1w : w.cell? ⟨bl, ol + k * 5 + 1, none⟩ = some (V k 1) := by rw [Nat.add_assoc]; exact hcell k hlt 1 (by decide)
          have d2w : w.cell? ⟨bl, ol + k * 5 + 2, none⟩ = some (V k 2) := by rw [Nat.add_assoc]; exact hcell k hlt 2 (by decide)
          rw [(F1.out k hlt).1] at d1w
          rw [(F2.out k hlt).1] at d2w
          have d1 := (hbr.cell (p := ⟨bl, ol + k * 5 + 1, none⟩) hbl).trans d1w
          have d2 := (hbr.cell (p := ⟨bl, ol + k * 5 + 2, none⟩) hbl).trans d2w
          generalize intOf (V k 1) = X at *
          generalize intOf (V k 2) = PA at *
          clear hcell d1w d2w
          have k0 : (0 : Int) ≤ k := by omega
          have k1 : (k : Int) < len := by omega
          have Hf := Lib.hid (fun w h => wFill_any b s X PA w h HS.out.ok)
          have HTOLD := Lib.hid (fun he => rates_told (s := s) HS.out.ok (x := X) (past := PA) he)
          have HFILL := Lib.hid (fun (wx : World) hp hg => rates_fill (w' := wx) HS.out X PA hp hg)
          obtain ⟨sm1, sm2⟩ := fillS_same s X PA
          have HE2 : Hid ((fillS s X PA).count = count ∧ (fillS s X PA).seconds = seconds ∧ ts.length ≤ k) := ⟨sm1.trans HE.out.1, sm2.trans HE.out.2.1, HE.out.2.2⟩
          have hsc : s.count = count := HE.out.1
          have HSA := Lib.hid (show allOf s = AL by rw [← HAL.out]; unfold allOf madeS; rw [HE.out.1, HE.out.2.1])
          rw [hsc, HSA.out] at HTOLD
          clear sm1 sm2 hsc
          generalize fillV s X PA = R at *
          generalize lookE s X [PA] = LE at *
          generalize fillS s X PA = s' at *
          go_upto_region 11 with (fail)
          go_cut [14, 15] from 34 to 58 (fun x y wx => x = .int .i64 R ∧ y = .int .i64 LE ∧ Hid (RatesAt wx base b s' u11 u12 ts) ∧ Below w.heap.size w wx ∧ base ≤ wx.heap.size)
          case first =>
            go_region_with ((go_at_call 12; refine (Hf.out _ (HS.out.p.below ((Below.refl _ _).drew))).mono ?_; rintro e w3 ⟨rfl, hp3, hg3⟩))
            all_goals
              go_simp
              go_step
              go_meet
              exact ⟨rfl, rfl, HFILL.out _ hp3 (grown_trans (grown_below ((Below.refl _ _).drew) _) hg3), below_of_own hbr hbw (grown_trans (grown_below ((Below.refl _ _).drew) _) hg3), by have := hg3.size; simp at this; omega⟩
          case rest =>
            obtain ⟨rfl, rfl, HS2, hbr2, hbz2⟩ := hcut
            clear d1 d2 HFILL Hf
            by_cases hle : LE = 0
            · obtain ⟨t1, t2, t3, t4, t5, t6⟩ := HTOLD.out hle
              subst hle
              have Ht := Lib.hid (fun w h => wtokens_any b s' w h)
              have HR := Lib.hid t1
              have HTT : Hid (s'.tokens = s'.tokens) := rfl
              obtain ⟨T, hT⟩ : ∃ v, s'.tokens = v := ⟨_, rfl⟩
              rw [hT] at Ht HR t5 t6
              have HTK := Lib.hid hT
              clear hT t1 HTOLD HTT
              obtain ⟨C3, hC3⟩ : ∃ v, count / 3 = v := ⟨_, rfl⟩
              have hcp : 1 ≤ count := Hmay.out.1
              rw [hC3] at t4
              go_wp2_with (fail)
              refine (Ht.out _ HS2.out.p).mono ?_
              rintro e w4 ⟨rfl, rfl⟩
              go_wp2_with (fail)
              refine (Ht.out _ HS2.out.p).mono ?_
              rintro e w4 ⟨rfl, rfl⟩
              go_wp2_with (fail)
              obtain ⟨ga, ca, rfl⟩ : ∃ a cap, u11 = .slice a ts.length cap := by
                rcases HS2.out.ot.2 with ⟨h, h2⟩ | ⟨g, cap, cur, h, _⟩
                · exact ⟨none, 0, by rw [h, h2]⟩
                · exact ⟨_, cap, h⟩
              obtain ⟨gb, cb, rfl⟩ : ∃ a cap, u12 = .slice a ts.length cap := by
                rcases HS2.out.or.2 with ⟨h, h2⟩ | ⟨g, cap, cur, h, _⟩
                · exact ⟨none, 0, by rw [h, h2]⟩
                · exact ⟨_, cap, h⟩
              have hlen : ts.length ≤ 300 := by have := HE2.out.2.2; omega
              go_loopw [16] (fun i wx => ∃ j : Nat, j ≤ ts.length ∧ i = .int .i64 j ∧ Hid (RatesAt wx base b s' (.slice ga ts.length ca) (.slice gb ts.length cb) ts) ∧ Below w.heap.size w wx ∧ base ≤ wx.heap.size) (fun i _ => ts.length - (intOf i).toNat)
              case atStart => exact ⟨0, Nat.zero_le _, rfl, HS2, hbr2, hbz2⟩
              case round =>
                obtain ⟨j, hj, rfl, HJ, hbj, hbzj⟩ := hrel
                by_cases hjl : j < ts.length
                · rcases HJ.out.ot.2 with ⟨hv, hn0⟩ | ⟨g, cap', cur, hv, _⟩
                  · omega
                  · injection hv with hv1 hv2 hv3
                    subst hv1
                    subst hv3
                    clear hv2
                    rcases HJ.out.or.2 with ⟨hv, hn0⟩ | ⟨g', cap', cur, hv, _⟩
                    · omega
                    · injection hv with hv1 hv2 hv3
                      subst hv1
                      subst hv3
                      clear hv2
                      have u0 : (ints ts)[j]? = some (.int .i64 ts[j]) := by simp [ints, hjl]
                      have u1 : (ints (ts.map (rateN s')))[j]? = some (.int .i64 (rateN s' ts[j])) := by simp [ints, hjl]
                      have e0 := HJ.out.ot.cells (g := g) rfl _ _ u0
                      have e1 := HJ.out.or.cells (g := g') rfl _ _ u1
                      rw [Go.WideShapes.add_plain, Nat.zero_add] at e0 e1
                      have hbd := HJ.out.bd ts[j] (List.getElem_mem hjl)
                      have htk := HJ.out.ok.t2
                      rw [HTK.out] at htk
                      have mo1 := Lib.hid (fun (h : ts[j] ≤ T) => rateN_mono HJ.out.ok h htk)
                      have mo2 := Lib.hid (fun (h : T ≤ ts[j]) => rateN_mono HJ.out.ok h hbd.2)
                      rw [← HR.out] at mo1 mo2
                      clear hbd htk u0 u1
                      generalize rateN s' ts[j] = RJ at *
                      generalize ts[j] = TJ at *
                      have j0 : (0 : Int) ≤ j := by omega
                      have j1 : (j : Int) < ts.length := by omega
                      rcases (show TJ < T ∨ TJ = T ∨ T < TJ by omega) with hc | hc | hc
                      · have m := mo1.out (by omega)
                        have x1 : decide (RJ < R) = false := decide_eq_false (by omega)
                        have x2 : decide (T < TJ) = false := decide_eq_false (by omega)
                        go_wp2_with (fail)
                        go_quiet (first | (go_at_call 13; refine Calls.quiet_of_same ((Ht.out _ (HJ.out.p.below (below_drewN (Below.refl _ _) _))).mono fun e w' h => ⟨h.1, h.2.symm⟩)))
                        go_wp2_with (fail)
                        first
                          | exact ⟨⟨j + 1, by omega, by go_num, rates_below HJ.out (below_drewN (Below.refl _ _) _), below_drewN hbj _, by simpa using hbzj⟩, by simp [intOf]; omega⟩
                          | (go_roundw
                             case rel => exact ⟨j + 1, by omega, by go_num, rates_below HJ.out (below_drewN (Below.refl _ _) _), below_drewN hbj _, by simpa using hbzj⟩
                             case measure => simp [intOf]; omega)
                      · subst hc
                        have x1 : decide (TJ < TJ) = false := decide_eq_false (by omega)
                        go_wp2_with (fail)
                        go_quiet (first | (go_at_call 13; refine Calls.quiet_of_same ((Ht.out _ (HJ.out.p.below (below_drewN (Below.refl _ _) _))).mono fun e w' h => ⟨h.1, h.2.symm⟩)))
                        go_wp2_with (fail)
                        first
                          | exact ⟨⟨j + 1, by omega, by go_num, rates_below HJ.out (below_drewN (Below.refl _ _) _), below_drewN hbj _, by simpa using hbzj⟩, by simp [intOf]; omega⟩
                          | (go_roundw
                             case rel => exact ⟨j + 1, by omega, by go_num, rates_below HJ.out (below_drewN (Below.refl _ _) _), below_drewN hbj _, by simpa using hbzj⟩
                             case measure => simp [intOf]; omega)
                      · have m := mo2.out (by omega)
                        have x1 : decide (R < RJ) = false := decide_eq_false (by omega)
                        have x2 : decide (TJ < T) = false := decide_eq_false (by omega)
                        go_wp2_with (fail)
                        go_quiet (first | (go_at_call 13; refine Calls.quiet_of_same ((Ht.out _ (HJ.out.p.below (below_drewN (Below.refl _ _) _))).mono fun e w' h => ⟨h.1, h.2.symm⟩)))
                        go_wp2_with (fail)
                        first
                          | exact ⟨⟨j + 1, by omega, by go_num, rates_below HJ.out (below_drewN (Below.refl _ _) _), below_drewN hbj _, by simpa using hbzj⟩, by simp [intOf]; omega⟩
                          | (go_roundw
                             case rel => exact ⟨j + 1, by omega, by go_num, rates_below HJ.out (below_drewN (Below.refl _ _) _), below_drewN hbj _, by simpa using hbzj⟩
                             case measure => simp [intOf]; omega)
                · have hje : j = ts.length := by omega
                  subst hje
                  have hot := HJ.out.ot
                  have hor := HJ.out.or
                  have hk8 : ts.length ≤ 300 := hlen
                  go_wp2_with (fail)
                  refine (Ht.out _ HJ.out.p).mono ?_
                  rintro e w5 ⟨rfl, rfl⟩
                  have hne := rates_ne HJ.out
                  have hbw2 : b < base := HJ.out.lt
                  go_wp2_with (first
                    | (at_builtin; refine wpList_append_where _ rfl (.tmp 123) (.tmp 126) 30 rfl base 3 i0 (.int .i64 0) 1 8 Try.underlying30 hi hz0 hz1 hz2 rfl (by decide) (.slice ga ts.length ca) ts.length (ints ts) rfl (hot.alloc _) ⟨_, 0, none⟩ 1 1 [.int .i64 T] rfl rfl (one_at _ _) (by intro u hu; simp at hu; subst hu; rfl) (by unfold maxLen; omega) (by omega) (by simp; omega) (by decide) ?_; intro v' w6 hown6 hg6 hk6; have hor6 := (hor.alloc _).kept hg6 hne; have hz6 := hg6.size)
                    | (at_builtin; refine wpList_append_where _ rfl (.tmp 128) (.tmp 130) 30 rfl base 3 i0 (.int .i64 0) 1 8 Try.underlying30 hi hz0 hz1 hz2 rfl (by decide) (.slice gb ts.length cb) ts.length (ints (ts.map (rateN s'))) rfl (hor6.alloc _) ⟨_, 0, none⟩ 1 1 [.int .i64 R] rfl rfl (one_at _ _) (by intro u hu; simp at hu; subst hu; rfl) (by unfold maxLen; omega) (by omega) (by simp at hz6 ⊢; omega) (by decide) ?_; intro v'' w7 hown7 hg7 hk7))
                  have PU := Lib.hid (rates_push HJ.out HTK.out.symm HR.out hbzj hown6 hg6 hk6 hown7 hg7 hk7)
                  have hz7 := hg7.size
                  have GB6 : Below w.heap.size w w6 := (hbj.alloc hbj.size _).grown hg6 (by have := hbj.size; simp; omega) (fun k hk => by have := (hot.lt k hk).1; omega)
                  have GB7 : Below w.heap.size w w7 := (GB6.alloc GB6.size _).grown hg7 (by have := GB6.size; simp; omega) (fun k hk => by have := (hor6.lt k hk).1; omega)
                  simp at hz6 hz7
                  clear hown6 hg6 hk6 hown7 hg7 hk7 hor6 hot hor
                  have hfin : Hid (s'.count = count ∧ s'.seconds = seconds ∧ (ts ++ [T]).length ≤ k + 1) := ⟨HE2.out.1, HE2.out.2.1, by have := HE2.out.2.2; simp; omega⟩
                  go_wp2_with (fail)
                  first
                    | exact ⟨⟨k + 1, s', ts ++ [T], by omega, by omega, by go_num, PU, hfin, GB7, by omega⟩, by simp [intOf]; omega⟩
                    | (go_roundw
                       case rel => exact ⟨k + 1, s', ts ++ [T], by omega, by omega, by go_num, PU, hfin, GB7, by omega⟩
                       case measure => simp [intOf]; omega)
            · have hleb : (LE == 0) = false := beq_eq_false_iff_ne.2 hle
              have hleb2 : (LE != 0) = true := by simp [hle]
              clear HTOLD
              go_wp2_with (fail)
              exact ⟨⟨k + 1, s', ts, by omega, by omega, by go_num, HS2, ⟨HE2.out.1, HE2.out.2.1, by have := HE2.out.2.2; omega⟩, hbr2, hbz2⟩, by simp [intOf]; omega⟩
      · by_cases hl : k < len
        · have k1 : (k : Int) < len := by omega
          have k2 : ¬ (k : Int) < 300 := by omega
          go_wp2_with (fail)
          go_ret
          exact ⟨rfl, hbr⟩
        · have hkl : k = len := by omega
          subst hkl
          go_wp2_with (fail)
          go_ret
          exact ⟨rfl, hbr⟩
  · go_wp2_with (fail)
    go_ret
    exact ⟨rfl, hb0.trans (hbel.mono hb0.size)⟩
end Go.Proofs.Ytfcmacibblkdkaa
