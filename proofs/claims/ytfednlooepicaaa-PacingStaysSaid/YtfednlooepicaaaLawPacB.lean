/- The laws of the layer pacing: PacingSpaces. -/
import Derived.Test.YtfednlooepicaaaLawPacM
namespace Go.Proofs.Ytfednlooepicaaa
open Go.RowKit
set_option linter.unusedVariables false
set_option linter.unusedSimpArgs false

set_option maxHeartbeats 3200000 in
set_option maxRecDepth 100000 in
theorem spaces_walk (w : World) (count : Int) (wc : (Lit.int .i64 count).wf = true) (queue : Int) (wq : (Lit.int .i64 queue).wf = true) (a : Option Addr) (len cap : Nat) (V : Nat → Nat → Value) (hm : len ≤ 140737488351232) (hr : RecsAt w a 4 len V)
    (f0 : ∀ j, j < len → V j 0 = .int .i64 (intOf (V j 0)) ∧ (Lit.int .i64 (intOf (V j 0))).wf = true) (f1 : ∀ j, j < len → V j 1 = .int .i64 (intOf (V j 1)) ∧ (Lit.int .i64 (intOf (V j 1))).wf = true)
    (f2 : ∀ j, j < len → V j 2 = .int .i64 (intOf (V j 2)) ∧ (Lit.int .i64 (intOf (V j 2))).wf = true) (f3 : ∀ j, j < len → V j 3 = .int .i64 (intOf (V j 3)) ∧ (Lit.int .i64 (intOf (V j 3))).wf = true) :
    Calls Try.prog 3 #[.int .i64 count, .int .i64 queue, .slice a len cap] w fun e w' => e = .returned (.bool true) ∧ Below w.heap.size w w' := by
  obtain ⟨c0, c1⟩ := wf64 wc
  obtain ⟨q0, q1⟩ := wf64 wq
  have Hr := Lib.hid hr
  have F1 := Lib.hid f1
  have F2 := Lib.hid f2
  clear wc wq hr f0 f1 f2 f3
  go_enter Try.func3, Try.ntmps3
  go_wp2_with (fail)
  refine (pnew_any count queue _ c0 c1 q0 q1).mono ?_
  rintro e v1 (⟨hmay, b, rfl, hb, hp, hbel⟩ | ⟨hn, rfl, hbel⟩)
  · have HP := Lib.hid hp
    have Hmay := Lib.hid hmay
    clear hp hmay
    go_wp2_with (fail)
    go_loopw [9, 10, 11] (fun l so i wr => ∃ (k : Nat) (s : PaceS), k ≤ len ∧ i = .int .i64 k ∧ l = .int .i64 s.t ∧ so = .bool s.some ∧ PaceAt wr b s ∧ PaceOk s ∧ Hid (s.count = count) ∧ Hid (s.queue = queue) ∧ Below w.heap.size w wr) (fun _ _ i _ => len - (intOf i).toNat)
    case atStart =>
      obtain ⟨m1, m2, m3, m4⟩ := Hmay.out
      exact ⟨0, ⟨0, false, count, queue, 0⟩, Nat.zero_le _, rfl, rfl, rfl, HP.out, ⟨m1, m2, m3, m4, Int.le_refl _, by show (0 : Int) ≤ _; decide, Int.le_refl _, by show (0 : Int) ≤ _; decide⟩, rfl, rfl, hbel⟩
    case round =>
      obtain ⟨k, s, hk, rfl, rfl, rfl, hp, hok, hcount, hqueue, hbr⟩ := hrel
      by_cases hlt : k < len ∧ k < 100
      · obtain ⟨hlt, hlt100⟩ := hlt
        rcases Hr.out with h | ⟨bl, ol, rfl, hbl, hcell⟩
        · omega
        · have d1w : w.cell? ⟨bl, ol + k * 4 + 1, none⟩ = some (V k 1) := by rw [Nat.add_assoc]; exact hcell k hlt 1 (by decide)
          have d2w : w.cell? ⟨bl, ol + k * 4 + 2, none⟩ = some (V k 2) := by rw [Nat.add_assoc]; exact hcell k hlt 2 (by decide)
          have d1 := (hbr.cell (p := ⟨bl, ol + k * 4 + 1, none⟩) hbl).trans d1w
          have d2 := (hbr.cell (p := ⟨bl, ol + k * 4 + 2, none⟩) hbl).trans d2w
          have w1 := F1.out k hlt
          have w2 := F2.out k hlt
          rw [w1.1] at d1 d1w
          rw [w2.1] at d2 d2w
          obtain ⟨t0, t1⟩ := wf64 w1.2
          obtain ⟨n0, n1⟩ := wf64 w2.2
          generalize intOf (V k 1) = T at *
          generalize intOf (V k 2) = N at *
          clear w1 w2 hcell
          have k0 : (0 : Int) ≤ k := by omega
          have k1 : (k : Int) < len := by omega
          have HPk := Lib.hid hp
          have Hok := Lib.hid hok
          clear hp hok
          have hlaw := spaces_law (s := s) Hok.out (time := T) (count := N)
          have hstay := stays_law s T N s.count
          have hsame := gone_same s T N s.count
          have hgok := gone_ok Hok.out T N s.count
          have hgo := fun w (h : PaceAt w b s) => go_any b s T N w h Hok.out t0 t1 n0 n1
          have hcc := hcount.out
          have hco := fun w => cost_any N count w n0 n1 c0 c1
          rw [hcc] at hlaw hstay hsame hgo hgok
          generalize askW s T N count = AW at *
          generalize askB s T N count = AB at *
          generalize askE s T N count = AE at *
          generalize gone s T N count = s' at *
          generalize costN N count = CN at *
          generalize costE N count = CE at *
          generalize cst N count = CC at *
          have Hco := Lib.hid hco
          have Hlaw := Lib.hid hlaw
          have Hstay := Lib.hid hstay
          have Hsame := Lib.hid hsame
          have Hgok := Lib.hid hgok
          have Hgo := Lib.hid hgo
          have hs0 : Hid (s'.count = count) := by show _ = _; rw [hsame.1]
          have hs1 : Hid (s'.queue = queue) := by show _ = _; rw [hsame.2]; exact hqueue
          clear hlaw hstay hsame hgok hgo hco hcc
          go_upto_region 8 with (fail)
          go_cut [12, 13, 14] from 31 to 56 (fun x y z wx => x = .int .i64 AW ∧ y = .bool AB ∧ z = .int .i64 AE ∧ PaceAt wx b s' ∧ wr.grownBy wx (some b))
          case first =>
            go_region_with ((go_at_call 9; refine (Hgo.out _ (HPk.out.below ((Below.refl _ _).drew))).mono ?_; rintro e w3 ⟨rfl, hp3, hg3⟩))
            all_goals
              go_simp
              go_step
              go_meet
              exact ⟨rfl, rfl, rfl, hp3, grown_trans (grown_below ((Below.refl _ _).drew) _) hg3⟩
          case rest =>
            obtain ⟨rfl, rfl, rfl, hp3, hg3⟩ := hcut
            have L3 : Below w.heap.size w wc := below_of_own hbr hb hg3
            have d1 := (L3.cell (p := ⟨bl, ol + k * 4 + 1, none⟩) hbl).trans d1w
            have d2 := (L3.cell (p := ⟨bl, ol + k * 4 + 2, none⟩) hbl).trans d2w
            have HP3 := Lib.hid hp3
            have HG3 := Lib.hid hg3
            have o2 := Hok.out.t1
            have o3 := Hok.out.t2
            have o4 := Hok.out.q2
            clear d2w hp3 hg3
            cases AB with
            | true =>
              obtain ⟨e1, e2, e3, e4, e5, e6, e7, e8, e9, e10⟩ := Hlaw.out rfl
              rw [hqueue.out] at e7 o4
              subst e1 e2 e3
              have E4 := Lib.hid e4
              have E5 := Lib.hid e5
              clear e4 e5
              have x1 : decide (AW < 0) = false := by simp; omega
              have x2 : decide (queue < AW) = false := by simp; omega
              go_wp2_with (fail)
              go_at_call 10
              refine (Hco.out _).mono ?_
              rintro e w4 ⟨rfl, hb4⟩
              have L4 := L3.trans (hb4.mono L3.size)
              have d1 := (L4.cell (p := ⟨bl, ol + k * 4 + 1, none⟩) hbl).trans d1w
              have HD1 := Lib.hid (e10)
              clear e10
              go_wp2_with (fail)
              all_goals first
                | exact ⟨⟨k + 1, s', by omega, by go_num, by rw [E4.out], by rw [E5.out], HP3.out.below hb4, Hgok.out, hs0, hs1, L4⟩, by simp [intOf]; omega⟩
                | (exfalso; have := HD1.out (by assumption); omega)
            | false =>
              have E4 := Lib.hid (Hstay.out (Or.inl rfl))
              go_wp2_with (fail)
              all_goals exact ⟨⟨k + 1, s', by omega, by go_num, by rw [E4.out.1], by rw [E4.out.2], HP3.out, Hgok.out, hs0, hs1, L3⟩, by simp [intOf]; omega⟩
      · have hk1 : ¬ ((k : Int) < len ∧ (k : Int) < 100) := by omega
        by_cases hl : k < len
        · have k1 : (k : Int) < len := by omega
          have k2 : ¬ (k : Int) < 100 := by omega
          go_wp2_with (fail)
          all_goals
            refine (plive_any _).mono ?_
            rintro e v2 ⟨rfl, hb2⟩
            go_wp2_with (fail)
            go_ret
            exact ⟨rfl, hbr.trans (hb2.mono hbr.size)⟩
        · have hkl : k = len := by omega
          subst hkl
          go_wp2_with (fail)
          all_goals
            refine (plive_any _).mono ?_
            rintro e v2 ⟨rfl, hb2⟩
            go_wp2_with (fail)
            go_ret
            exact ⟨rfl, hbr.trans (hb2.mono hbr.size)⟩
  · go_wp2_with (fail)
    refine (plive_any _).mono ?_
    rintro e v2 ⟨rfl, hb2⟩
    go_wp2_with (fail)
    go_ret
    exact ⟨rfl, hbel.trans (hb2.mono hbel.size)⟩
end Go.Proofs.Ytfednlooepicaaa
