/- The laws of the layer warmup: WarmRuns. -/
import Derived.Test.YtfcmacibblkdkaaWarmY
import Derived.Test.YtfcmacibblkdkaaRecs
import Derived.Deep.RegionWith
namespace Go.Proofs.Ytfcmacibblkdkaa
open Go.RowKit
set_option linter.unusedVariables false
set_option linter.unusedSimpArgs false

theorem two_ptr_at (w : World) (x y : Value) : ∀ j u, [x, y][j]? = some u → (w.alloc (.cells #[x, y] 49)).cell? ((⟨w.heap.size, 0, none⟩ : Addr).add j) = some u := by
  intro j u hj
  match j, hj with
  | 0, hj => simp at hj; subst hj; simp [go_sem, Addr.add]
  | 1, hj => simp at hj; subst hj; simp [go_sem, Addr.add]

set_option maxHeartbeats 6400000 in
set_option maxRecDepth 100000 in
theorem wruns_walk (w : World) (count : Int) (wc : (Lit.int .i64 count).wf = true) (seconds : Int) (ws : (Lit.int .i64 seconds).wf = true) (a : Option Addr) (len cap : Nat) (V : Nat → Nat → Value) (hm : len ≤ 140737488351232) (hr : RecsAt w a 5 len V)
    (f0 : ∀ j, j < len → V j 0 = .int .i64 (intOf (V j 0)) ∧ (Lit.int .i64 (intOf (V j 0))).wf = true) (f1 : ∀ j, j < len → V j 1 = .int .i64 (intOf (V j 1)) ∧ (Lit.int .i64 (intOf (V j 1))).wf = true)
    (f2 : ∀ j, j < len → V j 2 = .int .i64 (intOf (V j 2)) ∧ (Lit.int .i64 (intOf (V j 2))).wf = true) (f3 : ∀ j, j < len → V j 3 = .int .i64 (intOf (V j 3)) ∧ (Lit.int .i64 (intOf (V j 3))).wf = true)
    (f4 : ∀ j, j < len → V j 4 = .int .i64 (intOf (V j 4)) ∧ (Lit.int .i64 (intOf (V j 4))).wf = true) :
    Calls Try.prog 7 #[.int .i64 count, .int .i64 seconds, .slice a len cap] w fun e w' => e = .returned (.bool true) ∧ Below w.heap.size w w' := by
  obtain ⟨i0, hi, hz0, hz1, hz2⟩ := info_parts info_both
  obtain ⟨c0, c1⟩ := wf64 wc
  obtain ⟨q0, q1⟩ := wf64 ws
  have Hr := Lib.hid hr
  have F0 := Lib.hid f0
  have F1 := Lib.hid f1
  have F2 := Lib.hid f2
  have F3 := Lib.hid f3
  have F4 := Lib.hid f4
  clear wc ws hr f0 f1 f2 f3 f4
  go_enter Try.func7, Try.ntmps7
  go_wp2_with (fail)
  refine (wnew_any count seconds _ c0 c1 q0 q1).mono ?_
  rintro e v1 (⟨hmay, b, rfl, hb, hp, hbel⟩ | ⟨hn, rfl, hbel⟩)
  · have HP := Lib.hid hp
    have Hmay := Lib.hid hmay
    have lb := hp.lt
    clear hp hmay
    go_wp2_with (fail)
    refine (rwnew_any count seconds _ c0 c1 q0 q1).mono ?_
    rintro e v2 (⟨_, c, rfl, hc, hp2, hbel2⟩ | ⟨hn, rfl, hbel2⟩)
    · have HR := Lib.hid hp2
      have L2 := hbel.trans (hbel2.mono hbel.size)
      have hne : b ≠ c := by omega
      have hc0 : w.heap.size ≤ c := by have := hbel.size; omega
      have hb0 : w.heap.size ≤ b := hb
      have B2 := Lib.hid (show BothAt v2 b c (madeS count seconds) from ⟨HP.out.below hbel2, hp2, made_ok Hmay.out⟩)
      clear hp2
      go_wp2_with (fail)
      refine (wlive_any _).mono ?_
      rintro e v3 ⟨rfl, hb3⟩
      have L3 := L2.trans (hb3.mono L2.size)
      have S3 := Lib.hid (B2.out.below hb3)
      clear hb3 L2 hbel hbel2 hb hc lb B2
      go_wp2_with (fail)
      have T0 : RunsAt (v3.alloc (.cells #[.pointer (some ⟨b, 0, none⟩), .pointer (some ⟨c, 0, none⟩)] 49)) w.heap.size v3.heap.size b c (madeS count seconds) (.slice none 0 0) [] :=
        ⟨S3.out.below ((Below.refl _ _).alloc (Nat.le_refl _) _), ⟨by simp [go_sem], by simp [go_sem], by simp [go_sem], by simp⟩, hne, hb0, hc0, World.ownsRow_nil _ _ _ _, by simp, by simp, fun _ => rfl⟩
      have L4 := L3.alloc L3.size (.cells #[.pointer (some ⟨b, 0, none⟩), .pointer (some ⟨c, 0, none⟩)] 49)
      have S4 := Lib.hid T0
      have hbb : w.heap.size ≤ v3.heap.size := L3.size
      generalize v3.heap.size = bb at *
      clear T0 L3 S3 hne hb0 hc0
      go_loopw [12, 13] (fun ov i wr => ∃ (k b c : Nat) (s : WarmS) (O : Olds), k ≤ len ∧ i = .int .i64 k ∧ Hid (RunsAt wr w.heap.size bb b c s ov O) ∧ Below w.heap.size w wr) (fun _ i _ => len - (intOf i).toNat)
      case atStart => exact ⟨0, b, c, madeS count seconds, [], Nat.zero_le _, rfl, S4, L4⟩
      case round =>
        obtain ⟨k, b, c, s, O, hk, rfl, HS, hbr⟩ := hrel
        obtain ⟨oa, oc, rfl⟩ : ∃ oa oc, u12 = .slice oa O.length oc := by
          rcases HS.out.own.2 with ⟨h, h2⟩ | ⟨g, cap, cur, h, _⟩
          · exact ⟨none, 0, by rw [h, h2]⟩
          · exact ⟨_, cap, h⟩
        have hfew := HS.out.few
        by_cases hlt : k < len
        · rcases Hr.out with h | ⟨bl, ol, rfl, hbl, hcell⟩
          · omega
          · have d0w : w.cell? ⟨bl, ol + k * 5, none⟩ = some (V k 0) := by have := hcell k hlt 0 (by decide); rwa [Nat.add_zero] at this
            have d1w : w.cell? ⟨bl, ol + k * 5 + 1, none⟩ = some (V k 1) := by rw [Nat.add_assoc]; exact hcell k hlt 1 (by decide)
            have d2w : w.cell? ⟨bl, ol + k * 5 + 2, none⟩ = some (V k 2) := by rw [Nat.add_assoc]; exact hcell k hlt 2 (by decide)
            have d3w : w.cell? ⟨bl, ol + k * 5 + 3, none⟩ = some (V k 3) := by rw [Nat.add_assoc]; exact hcell k hlt 3 (by decide)
            have d4w : w.cell? ⟨bl, ol + k * 5 + 4, none⟩ = some (V k 4) := by rw [Nat.add_assoc]; exact hcell k hlt 4 (by decide)
            rw [(F0.out k hlt).1] at d0w
            rw [(F1.out k hlt).1] at d1w
            rw [(F2.out k hlt).1] at d2w
            rw [(F3.out k hlt).1] at d3w
            rw [(F4.out k hlt).1] at d4w
            have hpa : inI (intOf (V k 2)) := wf64 (F2.out k hlt).2
            have hnw : inI (intOf (V k 3)) := wf64 (F3.out k hlt).2
            generalize intOf (V k 0) = KD at *
            generalize intOf (V k 1) = X at *
            generalize intOf (V k 2) = PA at *
            generalize intOf (V k 3) = NW at *
            generalize intOf (V k 4) = NN at *
            clear hcell
            have k0 : (0 : Int) ≤ k := by omega
            have k1 : (k : Int) < len := by omega
            have D := Lib.hid (fun (wx : World) (h : Below w.heap.size w wx) => (show wx.cell? ⟨bl, ol + k * 5, none⟩ = some (.int .i64 KD) ∧ wx.cell? ⟨bl, ol + k * 5 + 1, none⟩ = some (.int .i64 X) ∧ wx.cell? ⟨bl, ol + k * 5 + 2, none⟩ = some (.int .i64 PA) ∧ wx.cell? ⟨bl, ol + k * 5 + 3, none⟩ = some (.int .i64 NW) ∧ wx.cell? ⟨bl, ol + k * 5 + 4, none⟩ = some (.int .i64 NN) from
              ⟨(h.cell (p := ⟨bl, ol + k * 5, none⟩) hbl).trans d0w, (h.cell (p := ⟨bl, ol + k * 5 + 1, none⟩) hbl).trans d1w, (h.cell (p := ⟨bl, ol + k * 5 + 2, none⟩) hbl).trans d2w, (h.cell (p := ⟨bl, ol + k * 5 + 3, none⟩) hbl).trans d3w, (h.cell (p := ⟨bl, ol + k * 5 + 4, none⟩) hbl).trans d4w⟩))
            clear d0w d1w d2w d3w d4w
            obtain ⟨d0, d1, d2, d3, d4⟩ := D.out wr hbr
            have x0 := HS.out.box.x0
            have x1 := HS.out.box.x1
            by_cases h4 : KD = 4
            · subst h4
              by_cases h6 : O.length < 6
              · have hO : (O.length : Int) < 6 := by omega
                have hown := HS.out.own
                have hl : bb < wr.heap.size := HS.out.box.lt
                go_wp2_with (at_builtin; refine wpList_append_own _ rfl _ _ 50 rfl (bb + 1) 49 i0 (.agg #[.pointer none, .pointer none]) 2 16 Try.underlying50 hi hz0 hz1 hz2 rfl (by decide) (.slice oa O.length oc) O.length (oldCells O) rfl (hown.alloc _) ⟨wr.heap.size, 0, none⟩ 1 1 [.pointer (some ⟨b, 0, none⟩), .pointer (some ⟨c, 0, none⟩)] rfl rfl (two_ptr_at wr _ _) (by intro u hu; simp at hu; rcases hu with rfl | rfl <;> rfl) (by unfold maxLen; omega) (by omega) (by simp; omega) ?_; intro v' w2 hown2 hg2 _)
                obtain ⟨a1, a2, a3, a4⟩ := runs_append (runs_below HS.out ((Below.refl _ _).alloc (Nat.le_refl _) _)) hown2 hg2
                have A1 := Lib.hid a1
                have A2 := Lib.hid a2
                have A3 := Lib.hid a3
                have A4 := Lib.hid a4
                have GG := Lib.hid hg2
                have M2 : Below w.heap.size w w2 := (hbr.alloc hbr.size _).grown hg2 (by have := hbr.size; simp; omega) (fun k hk => by have := (hown.lt k hk).1; omega)
                have HO := Lib.hid hown
                clear x0 x1 d0 d1 d2 d3 d4 hown2 hg2 a1 a2 a3 a4 hown hl
                have x0 := A2.out.x0
                have x1 := A2.out.x1
                go_region_with (first
                  | (go_at_call 18; refine (wfork_any b s _ (A1.out.p.below ((Below.refl _ _).drew))).mono ?_; rintro e w3 ⟨b', rfl, hb', hp3, hb3⟩; have X3 := Lib.hid (A2.out.below (((Below.refl _ _).drew).trans hb3)); have y1 := X3.out.x1)
                  | (go_at_call 20; refine (rwfork_any c s _ (A1.out.r.below (((Below.refl _ _).drew).trans hb3))).mono ?_; rintro e w4 ⟨c', rfl, hc', hp4, hb4⟩; have X4 := Lib.hid (X3.out.below hb4); have y0 := X4.out.x0; have y1 := X4.out.x1; have g0 := X4.out.fr 0; have g1 := X4.out.fr 1))
                all_goals
                  have P4 := runs_push A1.out A2.out A3.out A4.out ⟨hp3.below hb4, hp4, A1.out.ok⟩ ((((Below.refl _ _).drew).trans hb3).trans (hb4.mono ((((Below.refl _ _).drew).trans hb3).size))) hb' (by have := hb3.size; simp at this; omega) (by have := hp3.lt; omega) M2.size h6
                  have M4 : Below w.heap.size w ((w4.setCell ⟨bb, 0, none⟩ (.pointer (some ⟨b', 0, none⟩))).setCell ⟨bb, 1, none⟩ (.pointer (some ⟨c', 0, none⟩))) :=
                    ((M2.trans (((((Below.refl _ _).drew).trans hb3).trans (hb4.mono ((((Below.refl _ _).drew).trans hb3).size))).mono M2.size)).setCell hbb _).setCell hbb _
                  generalize (w4.setCell ⟨bb, 0, none⟩ (.pointer (some ⟨b', 0, none⟩))).setCell ⟨bb, 1, none⟩ (.pointer (some ⟨c', 0, none⟩)) = W5 at *
                  have HP5 := Lib.hid P4
                  clear P4 x0 x1 y0 y1 g0 g1 hp3 hp4 hb3 hb4 hb' hc'
                  have x0 := HP5.out.box.x0
                  have x1 := HP5.out.box.x1
                  obtain ⟨d0, d1, d2, d3, d4⟩ := D.out W5 M4
                  go_wp2_with (fail)
                  go_region_with ((go_at_call 21; refine (wdo_any b' c' s _ X PA NW NN _ (HP5.out.both.below ((Below.refl _ _).drew)) HP5.out.ne hpa hnw).mono ?_; rintro e w6 ⟨rfl, s', hB, hG⟩))
                  all_goals
                    have HB6 := Lib.hid hB
                    have HG6 := Lib.hid hG
                    clear hB hG
                    go_wp2_with (fail)
                    exact ⟨⟨k + 1, b', c', s', (O ++ [(b, c, s)]), by omega, by go_num, runs_do (runs_below HP5.out ((Below.refl _ _).drew)) HB6.out HG6.out, below_two (M4.trans (((Below.refl _ _).drew).mono M4.size)) HP5.out.lb HP5.out.lc HG6.out⟩, by simp [intOf]; omega⟩
              · have hO : ¬ (O.length : Int) < 6 := by omega
                go_wp2_with (fail)
                go_region_with ((go_at_call 21; refine (wdo_any b c s _ X PA NW NN _ (HS.out.both.below ((Below.refl _ _).drew)) HS.out.ne hpa hnw).mono ?_; rintro e w6 ⟨rfl, s', hB, hG⟩))
                all_goals
                  have HB6 := Lib.hid hB
                  have HG6 := Lib.hid hG
                  clear hB hG
                  go_wp2_with (fail)
                  exact ⟨⟨k + 1, b, c, s', O, by omega, by go_num, runs_do (runs_below HS.out ((Below.refl _ _).drew)) HB6.out HG6.out, below_two (hbr.trans (((Below.refl _ _).drew).mono hbr.size)) HS.out.lb HS.out.lc HG6.out⟩, by simp [intOf]; omega⟩
            · have h4b : (KD == 4) = false := beq_eq_false_iff_ne.2 h4
              go_wp2_with (fail)
              go_region_with ((go_at_call 21; refine (wdo_any b c s _ X PA NW NN _ (HS.out.both.below ((Below.refl _ _).drew)) HS.out.ne hpa hnw).mono ?_; rintro e w6 ⟨rfl, s', hB, hG⟩))
              all_goals
                have HB6 := Lib.hid hB
                have HG6 := Lib.hid hG
                clear hB hG
                go_wp2_with (fail)
                exact ⟨⟨k + 1, b, c, s', O, by omega, by go_num, runs_do (runs_below HS.out ((Below.refl _ _).drew)) HB6.out HG6.out, below_two (hbr.trans (((Below.refl _ _).drew).mono hbr.size)) HS.out.lb HS.out.lc HG6.out⟩, by simp [intOf]; omega⟩
        · have hkl : k = len := by omega
          subst hkl
          go_wp2_with (fail)
          go_loopw [14] (fun i wx => ∃ j : Nat, j ≤ O.length ∧ i = .int .i64 j ∧ Hid (RunsAt wx w.heap.size bb b c s (.slice oa O.length oc) O) ∧ Below w.heap.size w wx) (fun i _ => O.length - (intOf i).toNat)
          case atStart => exact ⟨0, Nat.zero_le _, rfl, HS, hbr⟩
          case round =>
            obtain ⟨j, hj, rfl, HX, hbx⟩ := hrel
            by_cases hjl : j < O.length
            · rcases HX.out.own.2 with ⟨hv, hn0⟩ | ⟨g, cap', cur, hv, _⟩
              · omega
              · injection hv with hv1 hv2 hv3
                subst hv1
                subst hv3
                clear hv2
                obtain ⟨t0, t1⟩ := oldCells_at O j hjl
                have e0 := HX.out.own.cells (g := g) rfl _ _ t0
                have e1 := HX.out.own.cells (g := g) rfl _ _ t1
                have HT := Lib.hid (HX.out.olds O[j] (List.getElem_mem hjl)).1
                generalize O[j] = T at *
                obtain ⟨g1, g2, s1⟩ := T
                rw [Go.WideShapes.add_plain, Nat.zero_add] at e0 e1
                dsimp only at e0 e1 HT
                have j0 : (0 : Int) ≤ j := by omega
                have j1 : (j : Int) < O.length := by omega
                go_wp2_with (fail)
                refine (walike_any g1 g2 s1 _ HT.out).mono ?_
                rintro e w6 ⟨rfl, hb6⟩
                go_wp2_with (fail)
                first
                  | exact ⟨⟨j + 1, by omega, by go_num, runs_below HX.out hb6, hbx.trans (hb6.mono hbx.size)⟩, by simp [intOf]; omega⟩
                  | (go_roundw
                     case rel => exact ⟨j + 1, by omega, by go_num, runs_below HX.out hb6, hbx.trans (hb6.mono hbx.size)⟩
                     case measure => simp [intOf]; omega)
            · have hje : j = O.length := by omega
              subst hje
              go_wp2_with (fail)
              go_ret
              exact ⟨rfl, hbx⟩
    · exact absurd Hmay.out hn
  · have Hn := Lib.hid hn
    go_wp2_with (fail)
    refine (rwnew_any count seconds _ c0 c1 q0 q1).mono ?_
    rintro e v2 (⟨hmay, c, rfl, hc, hp2, hbel2⟩ | ⟨_, rfl, hbel2⟩)
    · exact absurd hmay Hn.out
    · have L2 := hbel.trans (hbel2.mono hbel.size)
      clear hn
      go_wp2_with (fail)
      refine (wlive_any _).mono ?_
      rintro e v3 ⟨rfl, hb3⟩
      have L3 := L2.trans (hb3.mono L2.size)
      go_wp2_with (fail)
      go_ret
      exact ⟨rfl, L3⟩
end Go.Proofs.Ytfcmacibblkdkaa
