/- The laws of the layer warmup: WarmWarms. -/
import Derived.Test.YtfcmacibblkdkaaWarmW
namespace Go.Proofs.Ytfcmacibblkdkaa
open Go.RowKit
set_option linter.unusedVariables false
set_option linter.unusedSimpArgs false

theorem wfu32 {n : Int} (h : (Lit.int .u32 n).wf = true) : 0 ≤ n ∧ n ≤ 4294967295 := by
  simp [Lit.wf, IntKind.min, IntKind.max, IntKind.signed, IntKind.bits] at h
  omega
theorem wfu16 {n : Int} (h : (Lit.int .u16 n).wf = true) : 0 ≤ n ∧ n ≤ 65535 := by
  simp [Lit.wf, IntKind.min, IntKind.max, IntKind.signed, IntKind.bits] at h
  omega

set_option maxHeartbeats 3200000 in
theorem wwarms_walk (w : World) (count : Int) (wc : (Lit.int .u32 count).wf = true) (seconds : Int) (ws : (Lit.int .u16 seconds).wf = true) :
    Calls Try.prog 5 #[.int .u32 count, .int .u16 seconds] w fun e w' => e = .returned (.bool true) ∧ Below w.heap.size w w' := by
  obtain ⟨c0, c1⟩ := wfu32 wc
  obtain ⟨s0, s1⟩ := wfu16 ws
  clear wc ws
  obtain ⟨M, hM⟩ : ∃ v, seconds % 300 = v := ⟨_, rfl⟩
  have m0 : 0 ≤ M := by omega
  have m1 : M < 300 := by omega
  by_cases hc3 : count < 3
  · have C3 : 3 ≤ count + 3 := by omega
    have Hm : mayWarm (count + 3) (M + 1) := ⟨by omega, by omega, by omega, by omega⟩
    have HM := Lib.hid Hm
    have Hn := Lib.hid (fun w => wnew_any (count + 3) (M + 1) w (by omega) (by omega) (by omega) (by omega))
    have Hst := Lib.hid (fun (k : Int) (s : WarmS) (past : Int) hk0 hk h => warms_step (c := count + 3) (sec := M + 1) (k := k) (s := s) (past := past) C3 hk0 hk h)
    have H0 := Lib.hid (show WarmsAt (count + 3) (M + 1) ((0 : Nat) : Int) (madeS (count + 3) (M + 1)) 0 from ⟨made_ok Hm, rfl, rfl, Or.inl ⟨rfl, rfl, rfl⟩⟩)
    clear Hm
    go_enter Try.func5, Try.ntmps5
    go_wp2_with (fail)
    refine (wlive_any _).mono ?_
    rintro e v0 ⟨rfl, hb0⟩
    go_wp2_with (fail)
    refine (Hn.out _).mono ?_
    rintro e v1 (⟨_, b, rfl, hb, hp, hbel⟩ | ⟨hn, _⟩)
    · have HP := Lib.hid hp
      have hbw : w.heap.size ≤ b := by have := hb0.size; omega
      have L1 := hb0.trans (hbel.mono hb0.size)
      clear hp hb0 hbel hb
      go_wp2_with (fail)
      go_loopw [9, 10] (fun p i wr => ∃ (k : Nat) (s : WarmS) (P : Int), (k : Int) ≤ 2 * (M + 1) + 21 ∧ i = .int .i64 k ∧ p = .int .i64 P ∧ Hid (WarmAt wr b s) ∧ Hid (WarmsAt (count + 3) (M + 1) k s P) ∧ Below w.heap.size w wr) (fun _ i _ => (2 * (M + 1) + 21).toNat - (intOf i).toNat)
      case atStart => exact ⟨0, madeS (count + 3) (M + 1), 0, by omega, rfl, rfl, HP, H0, L1⟩
      case round =>
        obtain ⟨k, s, P, hk, rfl, rfl, HA, HW, hbr⟩ := hrel
        by_cases hlt : (k : Int) ≤ 2 * (M + 1) + 20
        · obtain ⟨f1, f2, f3, f4, f5⟩ := Hst.out k s P (by omega) (by omega) HW.out
          have Hf := Lib.hid (fun w h => wFill_any b s ((k : Int) * 1000000) P w h HW.out.1)
          rw [f1] at Hf
          have F2 := Lib.hid f2
          clear f1 f2
          generalize fillV s ((k : Int) * 1000000) P = R at *
          generalize fillS s ((k : Int) * 1000000) P = s' at *
          have k0 : (0 : Int) ≤ k := by omega
          by_cases hlate : 2 * (M + 1) + 4 ≤ (k : Int)
          · have hR := f5 (by omega)
            clear f5
            subst hR
            go_wp2_with (fail)
            refine (Hf.out _ HA.out).mono ?_
            rintro e v2 ⟨rfl, hp2, hg2⟩
            have HP2 := Lib.hid hp2
            have L2 := below_of_own hbr hbw hg2
            clear hp2 hg2
            go_wp2_with (fail)
            first
              | exact ⟨⟨k + 1, s', _, by omega, by go_num, rfl, HP2, F2, L2⟩, by simp [intOf]; omega⟩
              | (go_roundw
                 case rel => exact ⟨k + 1, s', _, by omega, by go_num, rfl, HP2, F2, L2⟩
                 case measure => simp [intOf]; omega)
          · clear f5
            go_wp2_with (fail)
            refine (Hf.out _ HA.out).mono ?_
            rintro e v2 ⟨rfl, hp2, hg2⟩
            have HP2 := Lib.hid hp2
            have L2 := below_of_own hbr hbw hg2
            clear hp2 hg2
            go_wp2_with (fail)
            first
              | exact ⟨⟨k + 1, s', _, by omega, by go_num, rfl, HP2, F2, L2⟩, by simp [intOf]; omega⟩
              | (go_roundw
                 case rel => exact ⟨k + 1, s', _, by omega, by go_num, rfl, HP2, F2, L2⟩
                 case measure => simp [intOf]; omega)
        · go_wp2_with (fail)
          go_ret
          exact ⟨rfl, hbr⟩
    · exact absurd HM.out hn
  · have C3 : 3 ≤ count := by omega
    have Hm : mayWarm (count) (M + 1) := ⟨by omega, by omega, by omega, by omega⟩
    have HM := Lib.hid Hm
    have Hn := Lib.hid (fun w => wnew_any (count) (M + 1) w (by omega) (by omega) (by omega) (by omega))
    have Hst := Lib.hid (fun (k : Int) (s : WarmS) (past : Int) hk0 hk h => warms_step (c := count) (sec := M + 1) (k := k) (s := s) (past := past) C3 hk0 hk h)
    have H0 := Lib.hid (show WarmsAt (count) (M + 1) ((0 : Nat) : Int) (madeS (count) (M + 1)) 0 from ⟨made_ok Hm, rfl, rfl, Or.inl ⟨rfl, rfl, rfl⟩⟩)
    clear Hm
    go_enter Try.func5, Try.ntmps5
    go_wp2_with (fail)
    refine (wlive_any _).mono ?_
    rintro e v0 ⟨rfl, hb0⟩
    go_wp2_with (fail)
    refine (Hn.out _).mono ?_
    rintro e v1 (⟨_, b, rfl, hb, hp, hbel⟩ | ⟨hn, _⟩)
    · have HP := Lib.hid hp
      have hbw : w.heap.size ≤ b := by have := hb0.size; omega
      have L1 := hb0.trans (hbel.mono hb0.size)
      clear hp hb0 hbel hb
      go_wp2_with (fail)
      go_loopw [9, 10] (fun p i wr => ∃ (k : Nat) (s : WarmS) (P : Int), (k : Int) ≤ 2 * (M + 1) + 21 ∧ i = .int .i64 k ∧ p = .int .i64 P ∧ Hid (WarmAt wr b s) ∧ Hid (WarmsAt (count) (M + 1) k s P) ∧ Below w.heap.size w wr) (fun _ i _ => (2 * (M + 1) + 21).toNat - (intOf i).toNat)
      case atStart => exact ⟨0, madeS (count) (M + 1), 0, by omega, rfl, rfl, HP, H0, L1⟩
      case round =>
        obtain ⟨k, s, P, hk, rfl, rfl, HA, HW, hbr⟩ := hrel
        by_cases hlt : (k : Int) ≤ 2 * (M + 1) + 20
        · obtain ⟨f1, f2, f3, f4, f5⟩ := Hst.out k s P (by omega) (by omega) HW.out
          have Hf := Lib.hid (fun w h => wFill_any b s ((k : Int) * 1000000) P w h HW.out.1)
          rw [f1] at Hf
          have F2 := Lib.hid f2
          clear f1 f2
          generalize fillV s ((k : Int) * 1000000) P = R at *
          generalize fillS s ((k : Int) * 1000000) P = s' at *
          have k0 : (0 : Int) ≤ k := by omega
          by_cases hlate : 2 * (M + 1) + 4 ≤ (k : Int)
          · have hR := f5 (by omega)
            clear f5
            subst hR
            go_wp2_with (fail)
            refine (Hf.out _ HA.out).mono ?_
            rintro e v2 ⟨rfl, hp2, hg2⟩
            have HP2 := Lib.hid hp2
            have L2 := below_of_own hbr hbw hg2
            clear hp2 hg2
            go_wp2_with (fail)
            first
              | exact ⟨⟨k + 1, s', _, by omega, by go_num, rfl, HP2, F2, L2⟩, by simp [intOf]; omega⟩
              | (go_roundw
                 case rel => exact ⟨k + 1, s', _, by omega, by go_num, rfl, HP2, F2, L2⟩
                 case measure => simp [intOf]; omega)
          · clear f5
            go_wp2_with (fail)
            refine (Hf.out _ HA.out).mono ?_
            rintro e v2 ⟨rfl, hp2, hg2⟩
            have HP2 := Lib.hid hp2
            have L2 := below_of_own hbr hbw hg2
            clear hp2 hg2
            go_wp2_with (fail)
            first
              | exact ⟨⟨k + 1, s', _, by omega, by go_num, rfl, HP2, F2, L2⟩, by simp [intOf]; omega⟩
              | (go_roundw
                 case rel => exact ⟨k + 1, s', _, by omega, by go_num, rfl, HP2, F2, L2⟩
                 case measure => simp [intOf]; omega)
        · go_wp2_with (fail)
          go_ret
          exact ⟨rfl, hbr⟩
    · exact absurd HM.out hn
end Go.Proofs.Ytfcmacibblkdkaa
