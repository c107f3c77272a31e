/- The laws of the layer pacing: PacingPlays. -/
import Derived.Test.YtfednlooepicaaaLawPacD
import Derived.Test.YtfednlooepicaaaRecs
import Derived.Deep.RegionWith
namespace Go.Proofs.Ytfednlooepicaaa
open Go.RowKit
set_option linter.unusedVariables false
set_option linter.unusedSimpArgs false

theorem BothAt.below {w w' : World} {b c : Nat} {s : PaceS} (h : BothAt w b c s) (k : Below w.heap.size w w') : BothAt w' b c s := ⟨h.p.below k, h.r.below k, h.ok, h.z⟩
theorem BothAt.two {w w' : World} {g h b c : Nat} {s : PaceS} (q : BothAt w g h s) (k : Grown2 w w' b c) (h1 : g ≠ b) (h2 : g ≠ c) (h3 : h ≠ b) (h4 : h ≠ c) : BothAt w' g h s := ⟨q.p.two k h1 h2, q.r.two k h3 h4, q.ok, q.z⟩
theorem below_two {w w1 w2 : World} {b c : Nat} (h : Below w.heap.size w w1) (hb : w.heap.size ≤ b) (hc : w.heap.size ≤ c) (g : Grown2 w1 w2 b c) : Below w.heap.size w w2 :=
  ⟨g.os.trans h.os, g.tape.trans h.tape, g.output.trans h.output, Nat.le_trans h.size g.size, fun k hk => (g.block k (Nat.lt_of_lt_of_le hk h.size) (by omega) (by omega)).trans (h.block k hk)⟩

set_option maxHeartbeats 3200000 in
set_option maxRecDepth 100000 in
theorem plays_walk (w : World) (count : Int) (wc : (Lit.int .i64 count).wf = true) (queue : Int) (wq : (Lit.int .i64 queue).wf = true) (a : Option Addr) (len cap : Nat) (V : Nat → Nat → Value) (hm : len ≤ 140737488351232) (hr : RecsAt w a 4 len V)
    (f0 : ∀ j, j < len → V j 0 = .int .i64 (intOf (V j 0)) ∧ (Lit.int .i64 (intOf (V j 0))).wf = true) (f1 : ∀ j, j < len → V j 1 = .int .i64 (intOf (V j 1)) ∧ (Lit.int .i64 (intOf (V j 1))).wf = true)
    (f2 : ∀ j, j < len → V j 2 = .int .i64 (intOf (V j 2)) ∧ (Lit.int .i64 (intOf (V j 2))).wf = true) (f3 : ∀ j, j < len → V j 3 = .int .i64 (intOf (V j 3)) ∧ (Lit.int .i64 (intOf (V j 3))).wf = true) :
    Calls Try.prog 6 #[.int .i64 count, .int .i64 queue, .slice a len cap] w fun e w' => e = .returned (.bool true) ∧ Below w.heap.size w w' := by
  obtain ⟨c0, c1⟩ := wf64 wc
  obtain ⟨q0, q1⟩ := wf64 wq
  have Hr := Lib.hid hr
  have F0 := Lib.hid f0
  have F1 := Lib.hid f1
  have F2 := Lib.hid f2
  have F3 := Lib.hid f3
  clear wc wq hr f0 f1 f2 f3
  go_enter Try.func6, Try.ntmps6
  go_wp2_with (fail)
  refine (pnew_any count queue _ c0 c1 q0 q1).mono ?_
  rintro e v1 (⟨hmay, b, rfl, hb, hp, hbel⟩ | ⟨hn, rfl, hbel⟩)
  · have HP := Lib.hid hp
    have Hmay := Lib.hid hmay
    have lb := hp.lt
    clear hp hmay
    go_wp2_with (fail)
    refine (rnew_any count queue _ c0 c1 q0 q1).mono ?_
    rintro e v2 (⟨_, c, rfl, hc, hp2, hbel2⟩ | ⟨hn, rfl, hbel2⟩)
    · have HR := Lib.hid hp2
      have hne : b < c := by omega
      have lc := hp2.lt
      clear hp2
      have L2 := hbel.trans (hbel2.mono hbel.size)
      go_wp2_with (fail)
      refine (plive_any _).mono ?_
      rintro e v3 ⟨rfl, hb3⟩
      have L3 := L2.trans (hb3.mono L2.size)
      have z3 := hb3.size
      go_wp2_with (fail)
      have S0 : BothAt v3 b c ⟨0, false, count, queue, 0⟩ := by
        obtain ⟨m1, m2, m3, m4⟩ := Hmay.out
        exact ⟨(HP.out.below hbel2).below hb3, HR.out.below hb3, ⟨m1, m2, m3, m4, Int.le_refl _, by show (0 : Int) ≤ _; decide, Int.le_refl _, by show (0 : Int) ≤ _; decide⟩, fun _ => rfl⟩
      have HS := Lib.hid S0
      clear S0
      refine (pfork_any b _ _ HS.out.p).mono ?_
      rintro e v4 ⟨g, rfl, hg, hp4, hb4⟩
      have L4 := L3.trans (hb4.mono L3.size)
      have z4 := hb4.size
      have lg := hp4.lt
      have HG := Lib.hid hp4
      clear hp4
      go_wp2_with (fail)
      refine (rfork_any c _ _ (HS.out.r.below hb4)).mono ?_
      rintro e v5 ⟨h, rfl, hh, hp5, hb5⟩
      have L5 := L4.trans (hb5.mono L4.size)
      have HH := Lib.hid hp5
      clear hp5
      have H0 := Lib.hid (show BothAt v5 g h ⟨0, false, count, queue, 0⟩ from ⟨HG.out.below hb5, HH.out, HS.out.ok, HS.out.z⟩)
      have S5 := Lib.hid ((HS.out.below hb4).below hb5)
      have e1 : g ≠ b := by omega
      have e2 : g ≠ c := by omega
      have e3 : h ≠ b := by omega
      have e4 : h ≠ c := by omega
      have hb0 : w.heap.size ≤ b := hb
      have hc0 : w.heap.size ≤ c := by omega
      have hbc : b ≠ c := by omega
      have hg0 : w.heap.size ≤ g := by have := L3.size; omega
      have hh0 : w.heap.size ≤ h := by have := L4.size; omega
      have hgh : g ≠ h := by omega
      clear z3 z4 lg hne lb lc hbel hbel2 hb3 hb4 hb5 hb hc hg hh L2 L3 L4
      go_wp2_with (fail)
      go_loopw [13] (fun i wr => ∃ (k : Nat) (s : PaceS), k ≤ len ∧ i = .int .i64 k ∧ Hid (BothAt wr b c s) ∧ Hid (BothAt wr g h ⟨0, false, count, queue, 0⟩) ∧ Below w.heap.size w wr) (fun i _ => len - (intOf i).toNat)
      case atStart => exact ⟨0, _, Nat.zero_le _, rfl, S5, H0, L5⟩
      case round =>
        obtain ⟨k, s, hk, rfl, HB, HF, hbr⟩ := hrel
        by_cases hlt : k < len ∧ k < 100
        · obtain ⟨hlt, hlt100⟩ := hlt
          rcases Hr.out with h | ⟨bl, ol, rfl, hbl, hcell⟩
          · omega
          · have d0w : w.cell? ⟨bl, ol + k * 4, none⟩ = some (V k 0) := by have := hcell k hlt 0 (by decide); rwa [Nat.add_zero] at this
            have d1w : w.cell? ⟨bl, ol + k * 4 + 1, none⟩ = some (V k 1) := by rw [Nat.add_assoc]; exact hcell k hlt 1 (by decide)
            have d2w : w.cell? ⟨bl, ol + k * 4 + 2, none⟩ = some (V k 2) := by rw [Nat.add_assoc]; exact hcell k hlt 2 (by decide)
            have d3w : w.cell? ⟨bl, ol + k * 4 + 3, none⟩ = some (V k 3) := by rw [Nat.add_assoc]; exact hcell k hlt 3 (by decide)
            have w0 := F0.out k hlt
            have w1 := F1.out k hlt
            have w2 := F2.out k hlt
            have w3 := F3.out k hlt
            rw [w0.1] at d0w
            rw [w1.1] at d1w
            rw [w2.1] at d2w
            rw [w3.1] at d3w
            obtain ⟨t0, t1⟩ := wf64 w1.2
            obtain ⟨n0, n1⟩ := wf64 w2.2
            obtain ⟨r0, r1⟩ := wf64 w3.2
            generalize intOf (V k 0) = KD at *
            generalize intOf (V k 1) = T at *
            generalize intOf (V k 2) = N at *
            generalize intOf (V k 3) = R at *
            clear w0 w1 w2 w3 hcell
            have k0 : (0 : Int) ≤ k := by omega
            have k1 : (k : Int) < len := by omega
            have D := Lib.hid (fun (wx : World) (h : Below w.heap.size w wx) => (show wx.cell? ⟨bl, ol + k * 4, none⟩ = some (.int .i64 KD) ∧ wx.cell? ⟨bl, ol + k * 4 + 1, none⟩ = some (.int .i64 T) ∧ wx.cell? ⟨bl, ol + k * 4 + 2, none⟩ = some (.int .i64 N) ∧ wx.cell? ⟨bl, ol + k * 4 + 3, none⟩ = some (.int .i64 R) from
              ⟨(h.cell (p := ⟨bl, ol + k * 4, none⟩) hbl).trans d0w, (h.cell (p := ⟨bl, ol + k * 4 + 1, none⟩) hbl).trans d1w, (h.cell (p := ⟨bl, ol + k * 4 + 2, none⟩) hbl).trans d2w, (h.cell (p := ⟨bl, ol + k * 4 + 3, none⟩) hbl).trans d3w⟩))
            clear d0w d1w d2w d3w
            have Hco := Lib.hid (fun w => cost_any N R w n0 n1 r0 r1)
            have Hrc := Lib.hid (fun w => rcost_any N R w n0 n1 r0 r1)
            generalize costN N R = CN at *
            generalize costE N R = CE at *
            obtain ⟨d0, d1, d2, d3⟩ := D.out wr hbr
            go_upto_region 9 with (fail)
            go_cut [14, 15] from 48 to 71 (fun x y wx => x = .int .i64 CN ∧ y = .int .i64 CE ∧ Below wr.heap.size wr wx)
            case first =>
              go_region_with ((go_at_call 10; refine (Hco.out _).mono ?_; rintro e w3 ⟨rfl, hb3⟩))
              all_goals
                go_simp
                go_step
                go_meet
                exact ⟨rfl, rfl, (Below.refl _ _).drew.trans hb3⟩
            case rest =>
              obtain ⟨rfl, rfl, hq1⟩ := hcut
              clear d0 d1 d2 d3
              have M1 := hbr.trans (hq1.mono hbr.size)
              obtain ⟨d0, d1, d2, d3⟩ := D.out _ M1
              have HB1 := Lib.hid (HB.out.below hq1)
              have HF1 := Lib.hid (HF.out.below hq1)
              clear hq1
              go_upto_region 10 with (fail)
              go_cut [16, 17] from 48 to 85 (fun x y wx => x = .int .i64 CN ∧ y = .int .i64 CE ∧ Below wc.heap.size wc wx)
              case first =>
                go_region_with ((go_at_call 17; refine (Hrc.out _).mono ?_; rintro e w3 ⟨rfl, hb3⟩))
                all_goals
                  go_simp
                  go_step
                  go_meet
                  exact ⟨rfl, rfl, (Below.refl _ _).drew.trans hb3⟩
              case rest =>
                obtain ⟨rfl, rfl, hq2⟩ := hcut
                clear d0 d1 d2 d3
                rename_i wd
                have M2 := M1.trans (hq2.mono M1.size)
                obtain ⟨d0, d1, d2, d3⟩ := D.out _ M2
                have HB2 := Lib.hid (HB1.out.below hq2)
                have HF2 := Lib.hid (HF1.out.below hq2)
                clear hq2
                go_wp2_with (fail)
                refine (do_any b c s KD T N R _ HB2.out hbc t0 t1 n0 n1 r0 r1).mono ?_
                rintro e w6 ⟨rfl, s', hB, hG⟩
                have HB3 := Lib.hid hB
                have HF3 := Lib.hid (HF2.out.two hG e1 e2 e3 e4)
                have M3 := below_two M2 hb0 hc0 hG
                clear hB hG d0 d1 d2 d3
                go_wp2_with (fail)
                all_goals exact ⟨⟨k + 1, s', by omega, by go_num, HB3, HF3, M3⟩, by simp [intOf]; omega⟩
        · have hk1 : ¬ ((k : Int) < len ∧ (k : Int) < 100) := by omega
          by_cases hl : k < len
          · have k1 : (k : Int) < len := by omega
            have k2 : ¬ (k : Int) < 100 := by omega
            go_wp2_with (fail)
            all_goals
              refine (do_any g h _ 0 0 1 0 _ HF.out hgh (by decide) (by decide) (by decide) (by decide) (by decide) (by decide)).mono ?_
              rintro e w6 ⟨rfl, s', hB, hG⟩
              go_wp2_with (fail)
              go_ret
              exact ⟨rfl, below_two hbr hg0 hh0 hG⟩
          · have hkl : k = len := by omega
            subst hkl
            go_wp2_with (fail)
            all_goals
              refine (do_any g h _ 0 0 1 0 _ HF.out hgh (by decide) (by decide) (by decide) (by decide) (by decide) (by decide)).mono ?_
              rintro e w6 ⟨rfl, s', hB, hG⟩
              go_wp2_with (fail)
              go_ret
              exact ⟨rfl, below_two hbr hg0 hh0 hG⟩
    · exact absurd Hmay.out hn
  · have Hn := Lib.hid hn
    go_wp2_with (fail)
    refine (rnew_any count queue _ c0 c1 q0 q1).mono ?_
    rintro e v2 (⟨hmay, c, rfl, hc, hp2, hbel2⟩ | ⟨_, rfl, hbel2⟩)
    · exact absurd hmay Hn.out
    · have L2 := hbel.trans (hbel2.mono hbel.size)
      clear hn
      go_wp2_with (fail)
      refine (plive_any _).mono ?_
      rintro e v3 ⟨rfl, hb3⟩
      have L3 := L2.trans (hb3.mono L2.size)
      go_wp2_with (fail)
      refine (pfork_nil _).mono ?_
      rintro e v4 ⟨rfl, rfl⟩
      go_wp2_with (fail)
      refine (rfork_nil _).mono ?_
      rintro e v5 ⟨rfl, rfl⟩
      clear hbel hbel2 hb3 L2
      go_wp2_with (fail)
      go_loopw [13] (fun i wr => ∃ (k : Nat), k ≤ len ∧ i = .int .i64 k ∧ Below w.heap.size w wr) (fun i _ => len - (intOf i).toNat)
      case atStart => exact ⟨0, Nat.zero_le _, rfl, L3⟩
      case round =>
        obtain ⟨k, hk, rfl, hbr⟩ := hrel
        by_cases hlt : k < len ∧ k < 100
        · obtain ⟨hlt, hlt100⟩ := hlt
          rcases Hr.out with h | ⟨bl, ol, rfl, hbl, hcell⟩
          · omega
          · have d0w : w.cell? ⟨bl, ol + k * 4, none⟩ = some (V k 0) := by have := hcell k hlt 0 (by decide); rwa [Nat.add_zero] at this
            have d1w : w.cell? ⟨bl, ol + k * 4 + 1, none⟩ = some (V k 1) := by rw [Nat.add_assoc]; exact hcell k hlt 1 (by decide)
            have d2w : w.cell? ⟨bl, ol + k * 4 + 2, none⟩ = some (V k 2) := by rw [Nat.add_assoc]; exact hcell k hlt 2 (by decide)
            have d3w : w.cell? ⟨bl, ol + k * 4 + 3, none⟩ = some (V k 3) := by rw [Nat.add_assoc]; exact hcell k hlt 3 (by decide)
            have w0 := F0.out k hlt
            have w1 := F1.out k hlt
            have w2 := F2.out k hlt
            have w3 := F3.out k hlt
            rw [w0.1] at d0w
            rw [w1.1] at d1w
            rw [w2.1] at d2w
            rw [w3.1] at d3w
            obtain ⟨t0, t1⟩ := wf64 w1.2
            obtain ⟨n0, n1⟩ := wf64 w2.2
            obtain ⟨r0, r1⟩ := wf64 w3.2
            generalize intOf (V k 0) = KD at *
            generalize intOf (V k 1) = T at *
            generalize intOf (V k 2) = N at *
            generalize intOf (V k 3) = R at *
            clear w0 w1 w2 w3 hcell
            have k0 : (0 : Int) ≤ k := by omega
            have k1 : (k : Int) < len := by omega
            have D := Lib.hid (fun (wx : World) (h : Below w.heap.size w wx) => (show wx.cell? ⟨bl, ol + k * 4, none⟩ = some (.int .i64 KD) ∧ wx.cell? ⟨bl, ol + k * 4 + 1, none⟩ = some (.int .i64 T) ∧ wx.cell? ⟨bl, ol + k * 4 + 2, none⟩ = some (.int .i64 N) ∧ wx.cell? ⟨bl, ol + k * 4 + 3, none⟩ = some (.int .i64 R) from
              ⟨(h.cell (p := ⟨bl, ol + k * 4, none⟩) hbl).trans d0w, (h.cell (p := ⟨bl, ol + k * 4 + 1, none⟩) hbl).trans d1w, (h.cell (p := ⟨bl, ol + k * 4 + 2, none⟩) hbl).trans d2w, (h.cell (p := ⟨bl, ol + k * 4 + 3, none⟩) hbl).trans d3w⟩))
            clear d0w d1w d2w d3w
            have Hco := Lib.hid (fun w => cost_any N R w n0 n1 r0 r1)
            have Hrc := Lib.hid (fun w => rcost_any N R w n0 n1 r0 r1)
            generalize costN N R = CN at *
            generalize costE N R = CE at *
            obtain ⟨d0, d1, d2, d3⟩ := D.out wr hbr
            go_upto_region 9 with (fail)
            go_cut [14, 15] from 48 to 71 (fun x y wx => x = .int .i64 CN ∧ y = .int .i64 CE ∧ Below wr.heap.size wr wx)
            case first =>
              go_region_with ((go_at_call 10; refine (Hco.out _).mono ?_; rintro e w3 ⟨rfl, hb3⟩))
              all_goals
                go_simp
                go_step
                go_meet
                exact ⟨rfl, rfl, (Below.refl _ _).drew.trans hb3⟩
            case rest =>
              obtain ⟨rfl, rfl, hq1⟩ := hcut
              clear d0 d1 d2 d3
              have M1 := hbr.trans (hq1.mono hbr.size)
              obtain ⟨d0, d1, d2, d3⟩ := D.out _ M1
              clear hq1
              go_upto_region 10 with (fail)
              go_cut [16, 17] from 48 to 85 (fun x y wx => x = .int .i64 CN ∧ y = .int .i64 CE ∧ Below wc.heap.size wc wx)
              case first =>
                go_region_with ((go_at_call 17; refine (Hrc.out _).mono ?_; rintro e w3 ⟨rfl, hb3⟩))
                all_goals
                  go_simp
                  go_step
                  go_meet
                  exact ⟨rfl, rfl, (Below.refl _ _).drew.trans hb3⟩
              case rest =>
                obtain ⟨rfl, rfl, hq2⟩ := hcut
                clear d0 d1 d2 d3
                rename_i wd
                have M2 := M1.trans (hq2.mono M1.size)
                obtain ⟨d0, d1, d2, d3⟩ := D.out _ M2
                clear hq2
                go_wp2_with (fail)
                refine (do_nil KD T N R _).mono ?_
                rintro e w6 ⟨rfl, hG⟩
                have M3 := M2.trans (hG.mono M2.size)
                clear hG d0 d1 d2 d3
                go_wp2_with (fail)
                all_goals exact ⟨⟨k + 1, by omega, by go_num, M3⟩, by simp [intOf]; omega⟩
        · have hk1 : ¬ ((k : Int) < len ∧ (k : Int) < 100) := by omega
          by_cases hl : k < len
          · have k1 : (k : Int) < len := by omega
            have k2 : ¬ (k : Int) < 100 := by omega
            go_wp2_with (fail)
            all_goals
              refine (do_nil 0 0 1 0 _).mono ?_
              rintro e w6 ⟨rfl, hG⟩
              go_wp2_with (fail)
              go_ret
              exact ⟨rfl, hbr.trans (hG.mono hbr.size)⟩
          · have hkl : k = len := by omega
            subst hkl
            go_wp2_with (fail)
            all_goals
              refine (do_nil 0 0 1 0 _).mono ?_
              rintro e w6 ⟨rfl, hG⟩
              go_wp2_with (fail)
              go_ret
              exact ⟨rfl, hbr.trans (hG.mono hbr.size)⟩
end Go.Proofs.Ytfednlooepicaaa
