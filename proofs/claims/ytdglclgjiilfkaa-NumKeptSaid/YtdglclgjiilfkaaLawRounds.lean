/- NumRounds: the walk. -/
import Derived.Test.YtdglclgjiilfkaaLawWide
namespace Go.Proofs.Ytdglclgjiilfkaa
open Go.RowKit
set_option linter.unusedVariables false
set_option linter.unusedSimpArgs false

theorem rnd_one (v : Int) (up : Bool) : rnd v 1 up = v := by cases up <;> simp [rnd]
theorem md_one (a b : Int) (up : Bool) : mdN a b 1 up = fitN (a * b) ∧ mdE a b 1 up = fitE (a * b) := by simp [mdN, mdE, rnd_one]

set_option maxHeartbeats 1600000 in
theorem rounds_walk (a : Int) (wa : (Lit.int .i64 a).wf = true) (b : Int) (wb : (Lit.int .i64 b).wf = true) (c : Int) (wc : (Lit.int .i64 c).wf = true) (w : World) :
    Calls Try.prog 3 #[.int .i64 a, .int .i64 b, .int .i64 c] w fun e w' => e = .returned (.bool true) ∧ Below w.heap.size w w' := by
  obtain ⟨a0, a1⟩ := wf64 wa
  obtain ⟨b0, b1⟩ := wf64 wb
  obtain ⟨c0, c1⟩ := wf64 wc
  clear wa wb wc
  have hone := Lib.hid (md_one a b true)
  have hone' := Lib.hid (md_one a b false)
  by_cases hok : mdE a b c false = 0 ∧ mdE a b c true = 0
  · have cz : c ≠ 0 := by
      intro h; subst h; simp [mdE] at hok
    have e1 : mdE a b c false = fitE (rnd (a * b) c false) := by simp [mdE, cz]
    have e2 : mdE a b c true = fitE (rnd (a * b) c true) := by simp [mdE, cz]
    have f1 : fitB (rnd (a * b) c false) = true := by
      cases h : fitB (rnd (a * b) c false) with
      | true => rfl
      | false => have := hok.1; rw [e1, fitE_no h] at this; omega
    have f2 : fitB (rnd (a * b) c true) = true := by
      cases h : fitB (rnd (a * b) c true) with
      | true => rfl
      | false => have := hok.2; rw [e2, fitE_no h] at this; omega
    obtain ⟨q1, q2, q3⟩ := rnd_down_up (a * b) c cz
    have n1 : mdN a b c false = rnd (a * b) c false := by simp only [mdN]; rw [if_neg cz, fitN_yes f1]
    have n2 : mdN a b c true = rnd (a * b) c true := by simp only [mdN]; rw [if_neg cz, fitN_yes f2]
    obtain ⟨g0, g1⟩ := (fitB_iff _).1 f1
    obtain ⟨g2, g3⟩ := (fitB_iff _).1 f2
    generalize rnd (a * b) c false = lo at *
    generalize rnd (a * b) c true = hi at *
    have N1 := Lib.hid n1
    have N2 := Lib.hid n2
    have E1 := Lib.hid hok.1
    have E2 := Lib.hid hok.2
    clear n1 n2 e1 e2 f1 f2 hok
    by_cases hlh : lo = hi
    · subst hlh
      have ex := Lib.hid (q3 rfl)
      have hee : (lo == lo) = true := by simp
      clear q3
      by_cases hf : fitB (a * b) = true
      · have hT := Lib.hid (show keep (lo * c) = fitN (a * b) by rw [ex.out, keep_fit hf, fitN_yes hf])
        have hE := Lib.hid (fitE_yes hf)
        clear hf
        go_enter Try.func3, Try.ntmps3
        go_wp2_with (fail)
        refine (muldiv_any a b c false _ a0 a1 b0 b1 c0 c1).mono ?_
        rintro e w1 ⟨rfl, hb1⟩
        go_wp2_with (fail)
        refine (muldiv_any a b c true _ a0 a1 b0 b1 c0 c1).mono ?_
        rintro e w2 ⟨rfl, hb2⟩
        rw [N1.out, N2.out, E1.out, E2.out]
        have B2 := hb1.trans (hb2.mono hb1.size)
        go_wp2_with (fail)
        refine (muldiv_any a b 1 false _ a0 a1 b0 b1 (by decide) (by decide)).mono ?_
        rintro e w3 ⟨rfl, hb3⟩
        rw [hone'.out.1, hone'.out.2, hE.out]
        have B3 := B2.trans (hb3.mono B2.size)
        go_wp2_with (fail)
        refine (rtimes_any lo c _ g0 g1 c0 c1).mono ?_
        rintro e w4 ⟨rfl, hb4⟩
        rw [hT.out]
        have BB := B3.trans (hb4.mono B3.size)
        go_wp2_with (fail)
        refine (muldiv_any a b 1 true _ a0 a1 b0 b1 (by decide) (by decide)).mono ?_
        rintro e v1 ⟨rfl, hv1⟩
        rw [hone.out.1, hone.out.2]
        go_wp2_with (fail)
        refine (mul_any a b _ a0 a1 b0 b1).mono ?_
        rintro e v2 ⟨rfl, hv2⟩
        go_wp2_with (fail)
        refine (muldiv_any a 1 c false _ a0 a1 (by decide) (by decide) c0 c1).mono ?_
        rintro e v3 ⟨rfl, hv3⟩
        go_wp2_with (fail)
        refine (div_any a c false _ a0 a1 c0 c1).mono ?_
        rintro e v4 ⟨rfl, hv4⟩
        go_wp2_with (fail)
        refine (live_any _).mono ?_
        rintro e v5 ⟨rfl, hv5⟩
        go_wp2_with (fail)
        refine (same_any _ _ _ _ _).mono ?_
        rintro e v6 ⟨rfl, rfl⟩
        simp only [beq_self_eq_true, Bool.and_self]
        go_wp2_with (fail)
        refine (same_any _ _ _ _ _).mono ?_
        rintro e v7 ⟨rfl, rfl⟩
        simp only [beq_self_eq_true, Bool.and_self]
        go_wp2_with (fail)
        go_ret
        have C1 := BB.trans (hv1.mono BB.size)
        have C2 := C1.trans (hv2.mono C1.size)
        have C3 := C2.trans (hv3.mono C2.size)
        have C4 := C3.trans (hv4.mono C3.size)
        exact ⟨rfl, C4.trans (hv5.mono C4.size)⟩
      · have hE := Lib.hid (fitE_no (by simpa using hf) : fitE (a * b) = 8)
        clear hf
        go_enter Try.func3, Try.ntmps3
        go_wp2_with (fail)
        refine (muldiv_any a b c false _ a0 a1 b0 b1 c0 c1).mono ?_
        rintro e w1 ⟨rfl, hb1⟩
        go_wp2_with (fail)
        refine (muldiv_any a b c true _ a0 a1 b0 b1 c0 c1).mono ?_
        rintro e w2 ⟨rfl, hb2⟩
        rw [N1.out, N2.out, E1.out, E2.out]
        have B2 := hb1.trans (hb2.mono hb1.size)
        go_wp2_with (fail)
        refine (muldiv_any a b 1 false _ a0 a1 b0 b1 (by decide) (by decide)).mono ?_
        rintro e w3 ⟨rfl, hb3⟩
        rw [hone'.out.1, hone'.out.2, hE.out]
        have BB := B2.trans (hb3.mono B2.size)
        go_wp2_with (fail)
        refine (muldiv_any a b 1 true _ a0 a1 b0 b1 (by decide) (by decide)).mono ?_
        rintro e v1 ⟨rfl, hv1⟩
        rw [hone.out.1, hone.out.2]
        go_wp2_with (fail)
        refine (mul_any a b _ a0 a1 b0 b1).mono ?_
        rintro e v2 ⟨rfl, hv2⟩
        go_wp2_with (fail)
        refine (muldiv_any a 1 c false _ a0 a1 (by decide) (by decide) c0 c1).mono ?_
        rintro e v3 ⟨rfl, hv3⟩
        go_wp2_with (fail)
        refine (div_any a c false _ a0 a1 c0 c1).mono ?_
        rintro e v4 ⟨rfl, hv4⟩
        go_wp2_with (fail)
        refine (live_any _).mono ?_
        rintro e v5 ⟨rfl, hv5⟩
        go_wp2_with (fail)
        refine (same_any _ _ _ _ _).mono ?_
        rintro e v6 ⟨rfl, rfl⟩
        simp only [beq_self_eq_true, Bool.and_self]
        go_wp2_with (fail)
        refine (same_any _ _ _ _ _).mono ?_
        rintro e v7 ⟨rfl, rfl⟩
        simp only [beq_self_eq_true, Bool.and_self]
        go_wp2_with (fail)
        go_ret
        have C1 := BB.trans (hv1.mono BB.size)
        have C2 := C1.trans (hv2.mono C1.size)
        have C3 := C2.trans (hv3.mono C2.size)
        have C4 := C3.trans (hv4.mono C3.size)
        exact ⟨rfl, C4.trans (hv5.mono C4.size)⟩
    · have hne : (lo == hi) = false := by simpa using hlh
      have h1 : lo < hi := by omega
      have h2 : hi - lo ≤ 1 := q2
      clear q3 hlh
      go_enter Try.func3, Try.ntmps3
      go_wp2_with (fail)
      refine (muldiv_any a b c false _ a0 a1 b0 b1 c0 c1).mono ?_
      rintro e w1 ⟨rfl, hb1⟩
      go_wp2_with (fail)
      refine (muldiv_any a b c true _ a0 a1 b0 b1 c0 c1).mono ?_
      rintro e w2 ⟨rfl, hb2⟩
      rw [N1.out, N2.out, E1.out, E2.out]
      have B2 := hb1.trans (hb2.mono hb1.size)
      go_wp2_with (fail)
      refine (muldiv_any a b 1 false _ a0 a1 b0 b1 (by decide) (by decide)).mono ?_
      rintro e w3 ⟨rfl, hb3⟩
      have BB := B2.trans (hb3.mono B2.size)
      go_wp2_with (fail)
      refine (muldiv_any a b 1 true _ a0 a1 b0 b1 (by decide) (by decide)).mono ?_
      rintro e v1 ⟨rfl, hv1⟩
      rw [hone.out.1, hone.out.2]
      go_wp2_with (fail)
      refine (mul_any a b _ a0 a1 b0 b1).mono ?_
      rintro e v2 ⟨rfl, hv2⟩
      go_wp2_with (fail)
      refine (muldiv_any a 1 c false _ a0 a1 (by decide) (by decide) c0 c1).mono ?_
      rintro e v3 ⟨rfl, hv3⟩
      go_wp2_with (fail)
      refine (div_any a c false _ a0 a1 c0 c1).mono ?_
      rintro e v4 ⟨rfl, hv4⟩
      go_wp2_with (fail)
      refine (live_any _).mono ?_
      rintro e v5 ⟨rfl, hv5⟩
      go_wp2_with (fail)
      refine (same_any _ _ _ _ _).mono ?_
      rintro e v6 ⟨rfl, rfl⟩
      simp only [beq_self_eq_true, Bool.and_self]
      go_wp2_with (fail)
      refine (same_any _ _ _ _ _).mono ?_
      rintro e v7 ⟨rfl, rfl⟩
      simp only [beq_self_eq_true, Bool.and_self]
      go_wp2_with (fail)
      go_ret
      have C1 := BB.trans (hv1.mono BB.size)
      have C2 := C1.trans (hv2.mono C1.size)
      have C3 := C2.trans (hv3.mono C2.size)
      have C4 := C3.trans (hv4.mono C3.size)
      exact ⟨rfl, C4.trans (hv5.mono C4.size)⟩
  · have hg : (mdE a b c false == 0) = false ∨ ((mdE a b c false == 0) = true ∧ (mdE a b c true == 0) = false) := by
      by_cases h1 : mdE a b c false = 0
      · right; exact ⟨by simpa using h1, by simpa using fun h2 => hok ⟨h1, h2⟩⟩
      · left; simpa using h1
    clear hok
    rcases hg with hg | ⟨hg, hg'⟩
    all_goals
      generalize hE1 : mdE a b c false = E1 at *
      generalize hE2 : mdE a b c true = E2 at *
      have HE1 := Lib.hid hE1
      have HE2 := Lib.hid hE2
      clear hE1 hE2
      go_enter Try.func3, Try.ntmps3
      go_wp2_with (fail)
      refine (muldiv_any a b c false _ a0 a1 b0 b1 c0 c1).mono ?_
      rintro e w1 ⟨rfl, hb1⟩
      go_wp2_with (fail)
      refine (muldiv_any a b c true _ a0 a1 b0 b1 c0 c1).mono ?_
      rintro e w2 ⟨rfl, hb2⟩
      rw [HE1.out, HE2.out]
      have B2 := hb1.trans (hb2.mono hb1.size)
      have BB := B2
      go_wp2_with (fail)
      refine (muldiv_any a b 1 true _ a0 a1 b0 b1 (by decide) (by decide)).mono ?_
      rintro e v1 ⟨rfl, hv1⟩
      rw [hone.out.1, hone.out.2]
      go_wp2_with (fail)
      refine (mul_any a b _ a0 a1 b0 b1).mono ?_
      rintro e v2 ⟨rfl, hv2⟩
      go_wp2_with (fail)
      refine (muldiv_any a 1 c false _ a0 a1 (by decide) (by decide) c0 c1).mono ?_
      rintro e v3 ⟨rfl, hv3⟩
      go_wp2_with (fail)
      refine (div_any a c false _ a0 a1 c0 c1).mono ?_
      rintro e v4 ⟨rfl, hv4⟩
      go_wp2_with (fail)
      refine (live_any _).mono ?_
      rintro e v5 ⟨rfl, hv5⟩
      go_wp2_with (fail)
      refine (same_any _ _ _ _ _).mono ?_
      rintro e v6 ⟨rfl, rfl⟩
      simp only [beq_self_eq_true, Bool.and_self]
      go_wp2_with (fail)
      refine (same_any _ _ _ _ _).mono ?_
      rintro e v7 ⟨rfl, rfl⟩
      simp only [beq_self_eq_true, Bool.and_self]
      go_wp2_with (fail)
      go_ret
      have C1 := BB.trans (hv1.mono BB.size)
      have C2 := C1.trans (hv2.mono C1.size)
      have C3 := C2.trans (hv3.mono C2.size)
      have C4 := C3.trans (hv4.mono C3.size)
      exact ⟨rfl, C4.trans (hv5.mono C4.size)⟩
end Go.Proofs.Ytdglclgjiilfkaa
