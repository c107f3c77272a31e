/- The reference of the layer pacing: wait. -/
import Derived.Test.YtfednlooepicaaaPacR
namespace Go.Proofs.Ytfednlooepicaaa
open Go.RowKit
set_option linter.unusedVariables false
set_option linter.unusedSimpArgs false

set_option maxHeartbeats 1600000 in
theorem rwait_any (b : Nat) (s : PaceS) (time count rate : Int) (w : World) (h : RPaceAt w b s) (hok : PaceOk s) (a0 : -9223372036854775808 ≤ time) (a1 : time ≤ 9223372036854775807) (b0 : -9223372036854775808 ≤ count) (b1 : count ≤ 9223372036854775807) (d0 : -9223372036854775808 ≤ rate) (d1 : rate ≤ 9223372036854775807) :
    Calls Try.prog 39 #[.pointer (some ⟨b, 0, none⟩), .int .i64 time, .int .i64 count, .int .i64 rate] w fun e w' => e = .returned (.tuple #[.int .i64 (askW s time count rate), .bool (askB s time count rate), .int .i64 (askE s time count rate)]) ∧ Below w.heap.size w w' := by
  have hc := rtok_any count
  have hr := rtok_any rate
  have hco := fun w => rcost_any count rate w b0 b1 d0 d1
  have HA := Lib.hid (show ∀ e bb ww, askE s time count rate = e ∧ askB s time count rate = bb ∧ askW s time count rate = ww → (Calls Try.prog 39 #[.pointer (some ⟨b, 0, none⟩), .int .i64 time, .int .i64 count, .int .i64 rate] w fun e' w' => e' = .returned (.tuple #[.int .i64 ww, .bool bb, .int .i64 e]) ∧ Below w.heap.size w w') → (Calls Try.prog 39 #[.pointer (some ⟨b, 0, none⟩), .int .i64 time, .int .i64 count, .int .i64 rate] w fun e w' => e = .returned (.tuple #[.int .i64 (askW s time count rate), .bool (askB s time count rate), .int .i64 (askE s time count rate)]) ∧ Below w.heap.size w w') by
    rintro e bb ww ⟨rfl, rfl, rfl⟩ h; exact h)
  have c2 := h.c2
  have c3 := h.c3
  have c4 := h.c4
  have H := Lib.hid h
  have Hok := Lib.hid hok
  clear h hok
  by_cases ha : asked time count rate
  · have hcb := cst_bd ha.2.2.1 ha.2.2.2
    have t1 : tokB count = true := decide_eq_true ha.2.2.1
    have t2 : tokB rate = true := decide_eq_true ha.2.2.2
    have t3 : costN count rate = cst count rate := by unfold costN; rw [if_pos ⟨ha.2.2.1, ha.2.2.2⟩]
    have t4 : costE count rate = 0 := by unfold costE; rw [if_pos ⟨ha.2.2.1, ha.2.2.2⟩]
    rw [t1] at hc
    rw [t2] at hr
    rw [t3, t4] at hco
    clear t1 t2 t3 t4
    have z0 : ¬ time < 0 := by have := ha.1; omega
    have z1 : ¬ 1152921504606846976 < time := by have := ha.2.1; omega
    have Ha := Lib.hid ha
    have Hc := Lib.hid hc
    have Hr := Lib.hid hr
    clear ha hc hr
    have Hfree := Lib.hid (fun hn hs => ask_free (s := s) Hok.out Ha.out hn hs)
    have Hwait := Lib.hid (fun hn hs h1 h2 => ask_wait (s := s) Ha.out hn hs h1 h2)
    have Hfull := Lib.hid (fun hn hs h1 h2 => ask_full (s := s) Ha.out hn hs h1 h2)
    have Hback := Lib.hid (fun hn => ask_back (s := s) Ha.out hn)
    have q0 := Hok.out.q1
    have q1 := Hok.out.q2
    have p0 := Hok.out.t1
    have p1 := Hok.out.t2
    have c1 := H.out.c1
    generalize cst count rate = C at *
    have Hco := Lib.hid hco
    clear hco
    obtain ⟨T, so, cc, Q, NN⟩ := s
    dsimp only at c1 c2 c3 c4 q0 q1 p0 p1
    by_cases hn : time < NN
    · refine HA.out _ _ _ (Hback.out hn) ?_
      go_enter Try.func39, Try.ntmps39
      go_wp2_with (fail)
      refine (Hc.out _).mono ?_
      rintro e w1 ⟨rfl, rfl⟩
      go_wp2_with (fail)
      refine (Hr.out _).mono ?_
      rintro e w1 ⟨rfl, rfl⟩
      go_wp2_with (fail)
      go_ret3
      exact ⟨rfl, Below.refl _ _⟩
    · by_cases hso : so = true
      · subst hso
        by_cases h1 : T + C ≤ time
        · refine HA.out _ _ _ (Hfree.out hn (Or.inr h1)) ?_
          go_enter Try.func39, Try.ntmps39
          go_wp2_with (fail)
          refine (Hc.out _).mono ?_
          rintro e w1 ⟨rfl, rfl⟩
          go_wp2_with (fail)
          refine (Hr.out _).mono ?_
          rintro e w1 ⟨rfl, rfl⟩
          go_wp2_with (fail)
          refine (Hco.out _).mono ?_
          rintro e w2 ⟨rfl, hb2⟩
          have H2 := H.out.below hb2
          have c3 := H2.c3
          have c4 := H2.c4
          dsimp only at c3 c4
          clear H2
          go_wp2_with (fail)
          go_ret3
          exact ⟨rfl, hb2⟩
        · by_cases h2 : T + C - time ≤ Q
          · refine HA.out _ _ _ (Hwait.out hn rfl h1 h2) ?_
            go_enter Try.func39, Try.ntmps39
            go_wp2_with (fail)
            refine (Hc.out _).mono ?_
            rintro e w1 ⟨rfl, rfl⟩
            go_wp2_with (fail)
            refine (Hr.out _).mono ?_
            rintro e w1 ⟨rfl, rfl⟩
            go_wp2_with (fail)
            refine (Hco.out _).mono ?_
            rintro e w2 ⟨rfl, hb2⟩
            have H2 := H.out.below hb2
            have c1 := H2.c1
            have c3 := H2.c3
            have c4 := H2.c4
            dsimp only at c1 c3 c4
            clear H2
            go_wp2_with (fail)
            go_ret3
            exact ⟨rfl, hb2⟩
          · refine HA.out _ _ _ (Hfull.out hn rfl h1 h2) ?_
            go_enter Try.func39, Try.ntmps39
            go_wp2_with (fail)
            refine (Hc.out _).mono ?_
            rintro e w1 ⟨rfl, rfl⟩
            go_wp2_with (fail)
            refine (Hr.out _).mono ?_
            rintro e w1 ⟨rfl, rfl⟩
            go_wp2_with (fail)
            refine (Hco.out _).mono ?_
            rintro e w2 ⟨rfl, hb2⟩
            have H2 := H.out.below hb2
            have c1 := H2.c1
            have c3 := H2.c3
            have c4 := H2.c4
            dsimp only at c1 c3 c4
            clear H2
            go_wp2_with (fail)
            go_ret3
            exact ⟨rfl, hb2⟩
      · have hso : so = false := by simpa using hso
        subst hso
        refine HA.out _ _ _ (Hfree.out hn (Or.inl rfl)) ?_
        go_enter Try.func39, Try.ntmps39
        go_wp2_with (fail)
        refine (Hc.out _).mono ?_
        rintro e w1 ⟨rfl, rfl⟩
        go_wp2_with (fail)
        refine (Hr.out _).mono ?_
        rintro e w1 ⟨rfl, rfl⟩
        go_wp2_with (fail)
        refine (Hco.out _).mono ?_
        rintro e w2 ⟨rfl, hb2⟩
        have H2 := H.out.below hb2
        have c4 := H2.c4
        dsimp only at c4
        clear H2
        go_wp2_with (fail)
        go_ret3
        exact ⟨rfl, hb2⟩
  · refine HA.out _ _ _ (ask_bad ha) ?_
    have h' : time < 0 ∨ (¬ time < 0 ∧ 1152921504606846976 < time) ∨ (¬ time < 0 ∧ ¬ 1152921504606846976 < time ∧ tokB count = false) ∨ (¬ time < 0 ∧ ¬ 1152921504606846976 < time ∧ tokB count = true ∧ tokB rate = false) := by
      unfold tokB
      unfold asked at ha
      by_cases k1 : tok count <;> by_cases k2 : tok rate <;> simp [k1, k2] at ha ⊢ <;> omega
    clear ha hco HA H Hok
    rcases h' with p1 | ⟨p1, p2⟩ | ⟨p1, p2, p3⟩ | ⟨p1, p2, p3, p4⟩
    · go_enter Try.func39, Try.ntmps39
      go_wp2_with (fail)
      go_ret3
      exact ⟨rfl, Below.refl _ _⟩
    · go_enter Try.func39, Try.ntmps39
      go_wp2_with (fail)
      go_ret3
      exact ⟨rfl, Below.refl _ _⟩
    · rw [p3] at hc
      have Hc := Lib.hid hc
      clear hc hr p3
      go_enter Try.func39, Try.ntmps39
      go_wp2_with (fail)
      refine (Hc.out _).mono ?_
      rintro e w1 ⟨rfl, rfl⟩
      go_wp2_with (fail)
      go_ret3
      exact ⟨rfl, Below.refl _ _⟩
    · rw [p3] at hc
      rw [p4] at hr
      have Hc := Lib.hid hc
      have Hr := Lib.hid hr
      clear hc hr p3 p4
      go_enter Try.func39, Try.ntmps39
      go_wp2_with (fail)
      refine (Hc.out _).mono ?_
      rintro e w1 ⟨rfl, rfl⟩
      go_wp2_with (fail)
      refine (Hr.out _).mono ?_
      rintro e w1 ⟨rfl, rfl⟩
      go_wp2_with (fail)
      go_ret3
      exact ⟨rfl, Below.refl _ _⟩
end Go.Proofs.Ytfednlooepicaaa
