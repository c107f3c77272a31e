/- The laws of the layer pacing: PacingStays. -/
import Derived.Test.YtfednlooepicaaaLawPacB
namespace Go.Proofs.Ytfednlooepicaaa
open Go.RowKit
set_option linter.unusedVariables false
set_option linter.unusedSimpArgs false

set_option maxHeartbeats 3200000 in
set_option maxRecDepth 100000 in
theorem stays_walk (w : World) (count : Int) (wc : (Lit.int .i64 count).wf = true) (queue : Int) (wq : (Lit.int .i64 queue).wf = true) (a : Option Addr) (len cap : Nat) (V : Nat → Nat → Value) (hm : len ≤ 140737488351232) (hr : RecsAt w a 4 len V)
    (f0 : ∀ j, j < len → V j 0 = .int .i64 (intOf (V j 0)) ∧ (Lit.int .i64 (intOf (V j 0))).wf = true) (f1 : ∀ j, j < len → V j 1 = .int .i64 (intOf (V j 1)) ∧ (Lit.int .i64 (intOf (V j 1))).wf = true)
    (f2 : ∀ j, j < len → V j 2 = .int .i64 (intOf (V j 2)) ∧ (Lit.int .i64 (intOf (V j 2))).wf = true) (f3 : ∀ j, j < len → V j 3 = .int .i64 (intOf (V j 3)) ∧ (Lit.int .i64 (intOf (V j 3))).wf = true) :
    Calls Try.prog 4 #[.int .i64 count, .int .i64 queue, .slice a len cap] w fun e w' => e = .returned (.bool true) ∧ Below w.heap.size w w' := by
  obtain ⟨c0, c1⟩ := wf64 wc
  obtain ⟨q0, q1⟩ := wf64 wq
  have Hr := Lib.hid hr
  have F1 := Lib.hid f1
  have F2 := Lib.hid f2
  clear wc wq hr f0 f1 f2 f3
  go_enter Try.func4, Try.ntmps4
  go_wp2_with (fail)
  refine (pnew_any count queue _ c0 c1 q0 q1).mono ?_
  rintro e v1 (⟨hmay, b, rfl, hb, hp, hbel⟩ | ⟨hn, rfl, hbel⟩)
  · have HP := Lib.hid hp
    have Hmay := Lib.hid hmay
    clear hp hmay
    go_wp2_with (fail)
    go_loopw [9] (fun i wr => ∃ (k : Nat) (s : PaceS), k ≤ len ∧ i = .int .i64 k ∧ PaceAt wr b s ∧ PaceOk s ∧ Hid (s.count = count) ∧ Hid (s.queue = queue) ∧ Below w.heap.size w wr) (fun i _ => len - (intOf i).toNat)
    case atStart =>
      obtain ⟨m1, m2, m3, m4⟩ := Hmay.out
      exact ⟨0, ⟨0, false, count, queue, 0⟩, Nat.zero_le _, rfl, HP.out, ⟨m1, m2, m3, m4, Int.le_refl _, by show (0 : Int) ≤ _; decide, Int.le_refl _, by show (0 : Int) ≤ _; decide⟩, rfl, rfl, hbel⟩
    case round =>
      obtain ⟨k, s, hk, rfl, hp, hok, hcount, hqueue, hbr⟩ := hrel
      by_cases hlt : k < len ∧ k < 100
      · obtain ⟨hlt, hlt100⟩ := hlt
        rcases Hr.out with h | ⟨bl, ol, rfl, hbl, hcell⟩
        · omega
        · have d1w : w.cell? ⟨bl, ol + k * 4 + 1, none⟩ = some (V k 1) := by rw [Nat.add_assoc]; exact hcell k hlt 1 (by decide)
          have d2w : w.cell? ⟨bl, ol + k * 4 + 2, none⟩ = some (V k 2) := by rw [Nat.add_assoc]; exact hcell k hlt 2 (by decide)
          have d1 := (hbr.cell (p := ⟨bl, ol + k * 4 + 1, none⟩) hbl).trans d1w
          have d2 := (hbr.cell (p := ⟨bl, ol + k * 4 + 2, none⟩) hbl).trans d2w
          have w1 := F1.out k hlt
          have w2 := F2.out k hlt
          rw [w1.1] at d1 d1w
          rw [w2.1] at d2 d2w
          obtain ⟨t0, t1⟩ := wf64 w1.2
          obtain ⟨n0, n1⟩ := wf64 w2.2
          generalize intOf (V k 1) = T at *
          generalize intOf (V k 2) = N at *
          clear w1 w2 hcell
          have k0 : (0 : Int) ≤ k := by omega
          have k1 : (k : Int) < len := by omega
          have HPk := Lib.hid hp
          have Hok := Lib.hid hok
          clear hp hok
          have hstay := stays_law s T N s.count
          have hsame := gone_same s T N s.count
          have hgok := gone_ok Hok.out T N s.count
          have hgo := fun w (h : PaceAt w b s) => go_any b s T N w h Hok.out t0 t1 n0 n1
          have hcc := hcount.out
          rw [hcc] at hstay hsame hgo hgok
          generalize askW s T N count = AW at *
          generalize askB s T N count = AB at *
          generalize askE s T N count = AE at *
          generalize gone s T N count = s' at *
          have Hstay := Lib.hid hstay
          have Hsame := Lib.hid hsame
          have Hgok := Lib.hid hgok
          have Hgo := Lib.hid hgo
          have hs0 : Hid (s'.count = count) := by show _ = _; rw [hsame.1]
          have hs1 : Hid (s'.queue = queue) := by show _ = _; rw [hsame.2]; exact hqueue
          clear hstay hsame hgok hgo hcc
          go_wp2_with (fail)
          refine (pnext_any b s _ HPk.out).mono ?_
          rintro e w3 ⟨rfl, m, rfl⟩
          have L2 : Below w.heap.size w (wr.drewN m) := below_drewN hbr m
          have d1 := (L2.cell (p := ⟨bl, ol + k * 4 + 1, none⟩) hbl).trans d1w
          have d2 := (L2.cell (p := ⟨bl, ol + k * 4 + 2, none⟩) hbl).trans d2w
          go_upto_region 8 with (fail)
          go_cut [12, 13, 14] from 30 to 60 (fun x y z wx => x = .int .i64 AW ∧ y = .bool AB ∧ z = .int .i64 AE ∧ PaceAt wx b s' ∧ wr.grownBy wx (some b))
          case first =>
            go_region_with ((go_at_call 9; refine (Hgo.out _ (HPk.out.below (below_drewN (Below.refl _ _) (m + 1)))).mono ?_; rintro e w3 ⟨rfl, hp3, hg3⟩))
            all_goals
              go_simp
              go_step
              go_meet
              exact ⟨rfl, rfl, rfl, hp3, grown_trans (grown_below (below_drewN (Below.refl _ _) (m + 1)) _) hg3⟩
          case rest =>
            obtain ⟨rfl, rfl, rfl, hp3, hg3⟩ := hcut
            have L3 : Below w.heap.size w wc := below_of_own hbr hb hg3
            have HP3 := Lib.hid hp3
            clear d1 d2 d1w d2w hp3 hg3
            go_wp2_with (fail)
            have hn := pnext_any b s' _ HP3.out
            by_cases hst : AB = false ∨ AE ≠ 0
            · rw [(Hstay.out hst).1, (Hstay.out hst).2] at hn
              clear hst
              refine hn.mono ?_
              rintro e w3 ⟨rfl, m', rfl⟩
              go_wp2_with (fail)
              all_goals exact ⟨⟨k + 1, s', by omega, by go_num, HP3.out.below (below_drewN (Below.refl _ _) _), Hgok.out, hs0, hs1, below_drewN L3 _⟩, by simp [intOf]; omega⟩
            · have hAB : AB = true := by cases AB <;> simp_all
              have hAE : AE = 0 := by apply Classical.byContradiction; intro hh; exact hst (Or.inr hh)
              subst hAB hAE
              clear hst
              refine hn.mono ?_
              rintro e w3 ⟨rfl, m', rfl⟩
              go_wp2_with (fail)
              all_goals exact ⟨⟨k + 1, s', by omega, by go_num, HP3.out.below (below_drewN (Below.refl _ _) _), Hgok.out, hs0, hs1, below_drewN L3 _⟩, by simp [intOf]; omega⟩
      · have hk1 : ¬ ((k : Int) < len ∧ (k : Int) < 100) := by omega
        by_cases hl : k < len
        · have k1 : (k : Int) < len := by omega
          have k2 : ¬ (k : Int) < 100 := by omega
          go_wp2_with (fail)
          all_goals
            refine (plive_any _).mono ?_
            rintro e v2 ⟨rfl, hb2⟩
            go_wp2_with (fail)
            go_ret
            exact ⟨rfl, hbr.trans (hb2.mono hbr.size)⟩
        · have hkl : k = len := by omega
          subst hkl
          go_wp2_with (fail)
          all_goals
            refine (plive_any _).mono ?_
            rintro e v2 ⟨rfl, hb2⟩
            go_wp2_with (fail)
            go_ret
            exact ⟨rfl, hbr.trans (hb2.mono hbr.size)⟩
  · go_wp2_with (fail)
    refine (plive_any _).mono ?_
    rintro e v2 ⟨rfl, hb2⟩
    go_wp2_with (fail)
    go_ret
    exact ⟨rfl, hbel.trans (hb2.mono hbel.size)⟩
end Go.Proofs.Ytfednlooepicaaa
