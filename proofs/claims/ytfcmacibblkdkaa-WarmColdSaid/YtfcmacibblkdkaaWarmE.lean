/- The laws of the layer warmup: WarmCold. -/
import Derived.Test.YtfcmacibblkdkaaWarmD
namespace Go.Proofs.Ytfcmacibblkdkaa
open Go.RowKit
set_option linter.unusedVariables false
set_option linter.unusedSimpArgs false

theorem lookE_made {count seconds x past : Int} (h : lookE (madeS count seconds) x [0] ≠ 0) : lookE (madeS count seconds) x [0] = 2 := by
  unfold lookE at h ⊢
  split
  · rfl
  · rename_i h1
    rw [if_neg h1] at h
    have hl : (madeS count seconds).last = 0 := rfl
    rw [hl] at h ⊢
    have h2 : ¬ x < 0 := by omega
    rw [if_neg h2] at h ⊢
    have h3 : [(0 : Int)].all mayB = true := by decide
    rw [h3] at h
    exact absurd rfl h

set_option maxHeartbeats 1600000 in
theorem wcold_walk (w : World) (count : Int) (wc : (Lit.int .i64 count).wf = true) (seconds : Int) (ws : (Lit.int .i64 seconds).wf = true) (x : Int) (wx : (Lit.int .i64 x).wf = true) :
    Calls Try.prog 4 #[.int .i64 count, .int .i64 seconds, .int .i64 x] w fun e w' => e = .returned (.bool true) ∧ Below w.heap.size w w' := by
  obtain ⟨c0, c1⟩ := wf64 wc
  obtain ⟨s0, s1⟩ := wf64 ws
  clear wc ws wx
  have Hn := Lib.hid (fun w => wnew_any count seconds w c0 c1 s0 s1)
  by_cases hm : mayWarm count seconds
  · have ok0 := made_ok hm
    have Hm := Lib.hid hm
    have Hf := Lib.hid (fun b w h => wFill_any b (madeS count seconds) x 0 w h ok0)
    by_cases he : lookE (madeS count seconds) x [0] = 0
    · obtain ⟨k1, k2⟩ := cold_law hm he
      rw [he] at Hf
      have hc := hm.1
      have hc2 := hm.2.1
      clear he ok0 hm
      generalize fillV (madeS count seconds) x 0 = R at *
      generalize hC3 : count / 3 = C3 at *
      go_enter Try.func4, Try.ntmps4
      go_wp2_with (fail)
      refine (wlive_any _).mono ?_
      rintro e v0 ⟨rfl, hb0⟩
      go_wp2_with (fail)
      refine (Hn.out _).mono ?_
      rintro e v1 (⟨_, b, rfl, hb, hp, hbel⟩ | ⟨hn, _⟩)
      · have HP := Lib.hid hp
        clear hp
        go_wp2_with (fail)
        refine (Hf.out b _ HP.out).mono ?_
        rintro e v2 ⟨rfl, hp2, hg2⟩
        clear hp2
        have L1 := hb0.trans (hbel.mono hb0.size)
        have L2 := below_of_own L1 (by have := hb0.size; omega) hg2
        rcases k2 with k2 | k2
        all_goals
          subst k2
          go_wp2_with (fail)
          go_ret
          exact ⟨rfl, L2⟩
      · exact absurd Hm.out hn
    · have he2 := lookE_made (past := 0) he
      rw [he2] at Hf
      clear he he2 ok0 hm
      generalize fillV (madeS count seconds) x 0 = R at *
      go_enter Try.func4, Try.ntmps4
      go_wp2_with (fail)
      refine (wlive_any _).mono ?_
      rintro e v0 ⟨rfl, hb0⟩
      go_wp2_with (fail)
      refine (Hn.out _).mono ?_
      rintro e v1 (⟨_, b, rfl, hb, hp, hbel⟩ | ⟨hn, _⟩)
      · have HP := Lib.hid hp
        clear hp
        go_wp2_with (fail)
        refine (Hf.out b _ HP.out).mono ?_
        rintro e v2 ⟨rfl, hp2, hg2⟩
        clear hp2
        have L1 := hb0.trans (hbel.mono hb0.size)
        have L2 := below_of_own L1 (by have := hb0.size; omega) hg2
        go_wp2_with (fail)
        go_ret
        exact ⟨rfl, L2⟩
      · exact absurd Hm.out hn
  · have Hm := Lib.hid hm
    clear hm
    go_enter Try.func4, Try.ntmps4
    go_wp2_with (fail)
    refine (wlive_any _).mono ?_
    rintro e v0 ⟨rfl, hb0⟩
    go_wp2_with (fail)
    refine (Hn.out _).mono ?_
    rintro e v1 (⟨hn, _⟩ | ⟨_, rfl, hbel⟩)
    · exact absurd hn Hm.out
    · go_wp2_with (fail)
      go_ret
      exact ⟨rfl, hb0.trans (hbel.mono hb0.size)⟩
end Go.Proofs.Ytfcmacibblkdkaa
