/- The reference's Flow: strategy 2. -/
import Derived.Test.YtpgjaaekpaeajaaRRefF
namespace Go.Proofs.Ytpgjaaekpaeajaa
open Go.RowKit
set_option linter.unusedVariables false
set_option linter.unusedSimpArgs false

set_option maxHeartbeats 25600000 in
set_option maxRecDepth 100000 in
theorem r7flow2_any (f : FlowS) (z0 : f.res.size ≤ maxLen) (z1 : f.org.size ≤ maxLen) (z2 : f.ref.size ≤ maxLen) (h : f.strat = 2) (hh0 : 0 ≤ f.shape) (w : World) : Calls Try.prog 57 #[f.v] w fun e w' => e = .returned (.int .i64 (flowE f)) ∧ Below w.heap.size w w' := by
  rw [← rflowF_eq f]
  obtain ⟨res, org, thr, cnt, strat, ref, shape, warm, queue, cl, id, fb⟩ := f
  unfold FlowS.v FlowS.cells leastF
  dsimp only at *
  have HB := Lib.hid (show Below w.heap.size w (w.alloc (.cells #[.string res, .string org, .bool thr, .int .i64 cnt, .int .u8 strat, .string ref, .int .u8 shape, .int .i64 warm, .int .i64 queue, .bool cl, .int .i64 id, .bool fb] 41)) from (Below.refl _ _).alloc (Nat.le_refl _) _)
  have HN0 := Lib.hid (fun w => riname_any res z0 w)
  have HN1 := Lib.hid (fun w => riname_any org z1 w)
  have HN2 := Lib.hid (fun w => riname_any ref z2 w)
  have HC0 := Lib.hid (fun w => rinZ cnt 0 1099511627776 w)
  have HC1 := Lib.hid (fun w => rinZ cnt 1 1099511627776 w)
  have HWW := Lib.hid (fun w => rinZ warm 1 3600 w)
  have HQQ := Lib.hid (fun w => rinZ queue 0 3600000000 w)
  have HII := Lib.hid (fun w => rinZ id 1 1099511627776 w)
  clear z0 z1 z2
  generalize nameB res = A0 at *
  generalize nameB org = A1 at *
  generalize nameB ref = A2 at *
  generalize inZ warm 1 3600 = WW at *
  generalize inZ queue 0 3600000000 = QQ at *
  generalize inZ id 1 1099511627776 = II at *
  have HH := Lib.hid (show shape = 0 ∨ shape = 1 ∨ shape = 2 ∨ shape = 3 ∨ 3 < shape by omega)
  clear hh0
  subst h
  rcases HH.out with h5 | h5 | h5 | h5 | h5
  · clear HH
    as_aux_lemma =>
      subst h5
      rw [show (if (0 : Int) = 0 then (0 : Int) else 1) = 0 from rfl]
      generalize inZ cnt 0 1099511627776 = CC at *
      obtain ⟨E, hE⟩ : ∃ E, rflowF A0 A1 A2 (2 : Int) (0 : Int) CC (ref.toList == []) thr cl WW (warm == 0) QQ (queue == 0) II (id == 0) fb = E := ⟨_, rfl⟩
      rw [hE]
      have HE := Lib.hid hE
      clear hE
      go_enter Try.func57, Try.ntmps57
      go_wp2_with (fail)
      refine (HN0.out _).mono ?_
      rintro e wq ⟨rfl, hq⟩
      subst hq
      cases A0
      · go_wp2_with (fail)
        go_ret
        exact ⟨by rw [← HE.out]; first | rfl | (simp; done), HB.out⟩
      · go_wp2_with (fail)
        refine (HN1.out _).mono ?_
        rintro e wq ⟨rfl, hq⟩
        subst hq
        cases A1
        · go_wp2_with (fail)
          go_ret
          exact ⟨by rw [← HE.out]; first | rfl | (simp; done), HB.out⟩
        · go_wp2_with (fail)
          refine (HN2.out _).mono ?_
          rintro e wq ⟨rfl, hq⟩
          subst hq
          cases A2
          · go_wp2_with (fail)
            go_ret
            exact ⟨by rw [← HE.out]; first | rfl | (simp; done), HB.out⟩
          · go_wp2_with (fail)
            refine (HC0.out _).mono ?_
            rintro e wq ⟨rfl, hq⟩
            subst hq
            cases CC
            · go_wp2_with (fail)
              go_ret
              exact ⟨by rw [← HE.out]; first | rfl | (simp; done), HB.out⟩
            · cases thr
              · by_cases hz : warm = 0
                · subst hz
                  by_cases hz : queue = 0
                  · subst hz
                    cases cl
                    · by_cases hz : id = 0
                      · subst hz
                        cases fb
                        · go_wp2_with (fail)
                          go_ret
                          exact ⟨by rw [← HE.out]; first | rfl | (simp; done), HB.out⟩
                        · go_wp2_with (fail)
                          go_ret
                          exact ⟨by rw [← HE.out]; first | rfl | (simp; done), HB.out⟩
                      · have hz2 : (id == 0) = false := beq_eq_false_iff_ne.2 hz
                        rw [hz2] at HE
                        have hz3 : (id != 0) = true := by simpa using hz
                        go_wp2_with (fail)
                        go_ret
                        exact ⟨by rw [← HE.out]; first | rfl | (simp; done), HB.out⟩
                    · go_wp2_with (fail)
                      go_ret
                      exact ⟨by rw [← HE.out]; first | rfl | (simp; done), HB.out⟩
                  · have hz2 : (queue == 0) = false := beq_eq_false_iff_ne.2 hz
                    rw [hz2] at HE
                    have hz3 : (queue != 0) = true := by simpa using hz
                    go_wp2_with (fail)
                    go_ret
                    exact ⟨by rw [← HE.out]; first | rfl | (simp; done), HB.out⟩
                · have hz2 : (warm == 0) = false := beq_eq_false_iff_ne.2 hz
                  rw [hz2] at HE
                  have hz3 : (warm != 0) = true := by simpa using hz
                  go_wp2_with (fail)
                  go_ret
                  exact ⟨by rw [← HE.out]; first | rfl | (simp; done), HB.out⟩
              · cases cl
                · by_cases hz : warm = 0
                  · subst hz
                    by_cases hz : queue = 0
                    · subst hz
                      by_cases hz : id = 0
                      · subst hz
                        cases fb
                        · go_wp2_with (fail)
                          go_ret
                          exact ⟨by rw [← HE.out]; first | rfl | (simp; done), HB.out⟩
                        · go_wp2_with (fail)
                          go_ret
                          exact ⟨by rw [← HE.out]; first | rfl | (simp; done), HB.out⟩
                      · have hz2 : (id == 0) = false := beq_eq_false_iff_ne.2 hz
                        rw [hz2] at HE
                        have hz3 : (id != 0) = true := by simpa using hz
                        go_wp2_with (fail)
                        go_ret
                        exact ⟨by rw [← HE.out]; first | rfl | (simp; done), HB.out⟩
                    · have hz2 : (queue == 0) = false := beq_eq_false_iff_ne.2 hz
                      rw [hz2] at HE
                      have hz3 : (queue != 0) = true := by simpa using hz
                      go_wp2_with (fail)
                      go_ret
                      exact ⟨by rw [← HE.out]; first | rfl | (simp; done), HB.out⟩
                  · have hz2 : (warm == 0) = false := beq_eq_false_iff_ne.2 hz
                    rw [hz2] at HE
                    have hz3 : (warm != 0) = true := by simpa using hz
                    go_wp2_with (fail)
                    go_ret
                    exact ⟨by rw [← HE.out]; first | rfl | (simp; done), HB.out⟩
                · go_wp2_with (fail)
                  go_ret
                  exact ⟨by rw [← HE.out]; first | rfl | (simp; done), HB.out⟩
  · clear HH
    as_aux_lemma =>
      subst h5
      rw [show (if (1 : Int) = 0 then (0 : Int) else 1) = 1 from rfl]
      generalize inZ cnt 1 1099511627776 = CC at *
      obtain ⟨E, hE⟩ : ∃ E, rflowF A0 A1 A2 (2 : Int) (1 : Int) CC (ref.toList == []) thr cl WW (warm == 0) QQ (queue == 0) II (id == 0) fb = E := ⟨_, rfl⟩
      rw [hE]
      have HE := Lib.hid hE
      clear hE
      go_enter Try.func57, Try.ntmps57
      go_wp2_with (fail)
      refine (HN0.out _).mono ?_
      rintro e wq ⟨rfl, hq⟩
      subst hq
      cases A0
      · go_wp2_with (fail)
        go_ret
        exact ⟨by rw [← HE.out]; first | rfl | (simp; done), HB.out⟩
      · go_wp2_with (fail)
        refine (HN1.out _).mono ?_
        rintro e wq ⟨rfl, hq⟩
        subst hq
        cases A1
        · go_wp2_with (fail)
          go_ret
          exact ⟨by rw [← HE.out]; first | rfl | (simp; done), HB.out⟩
        · go_wp2_with (fail)
          refine (HN2.out _).mono ?_
          rintro e wq ⟨rfl, hq⟩
          subst hq
          cases A2
          · go_wp2_with (fail)
            go_ret
            exact ⟨by rw [← HE.out]; first | rfl | (simp; done), HB.out⟩
          · go_wp2_with (fail)
            refine (HC1.out _).mono ?_
            rintro e wq ⟨rfl, hq⟩
            subst hq
            cases CC
            · go_wp2_with (fail)
              go_ret
              exact ⟨by rw [← HE.out]; first | rfl | (simp; done), HB.out⟩
            · cases thr
              · go_wp2_with (fail)
                refine (HWW.out _).mono ?_
                rintro e wq ⟨rfl, hq⟩
                subst hq
                cases WW
                · go_wp2_with (fail)
                  go_ret
                  exact ⟨by rw [← HE.out]; first | rfl | (simp; done), HB.out⟩
                · by_cases hz : queue = 0
                  · subst hz
                    cases cl
                    · by_cases hz : id = 0
                      · subst hz
                        cases fb
                        · go_wp2_with (fail)
                          go_ret
                          exact ⟨by rw [← HE.out]; first | rfl | (simp; done), HB.out⟩
                        · go_wp2_with (fail)
                          go_ret
                          exact ⟨by rw [← HE.out]; first | rfl | (simp; done), HB.out⟩
                      · have hz2 : (id == 0) = false := beq_eq_false_iff_ne.2 hz
                        rw [hz2] at HE
                        have hz3 : (id != 0) = true := by simpa using hz
                        go_wp2_with (fail)
                        go_ret
                        exact ⟨by rw [← HE.out]; first | rfl | (simp; done), HB.out⟩
                    · go_wp2_with (fail)
                      go_ret
                      exact ⟨by rw [← HE.out]; first | rfl | (simp; done), HB.out⟩
                  · have hz2 : (queue == 0) = false := beq_eq_false_iff_ne.2 hz
                    rw [hz2] at HE
                    have hz3 : (queue != 0) = true := by simpa using hz
                    go_wp2_with (fail)
                    go_ret
                    exact ⟨by rw [← HE.out]; first | rfl | (simp; done), HB.out⟩
              · go_wp2_with (fail)
                go_ret
                exact ⟨by rw [← HE.out]; first | rfl | (simp; done), HB.out⟩
  · clear HH
    as_aux_lemma =>
      subst h5
      rw [show (if (2 : Int) = 0 then (0 : Int) else 1) = 1 from rfl]
      generalize inZ cnt 1 1099511627776 = CC at *
      obtain ⟨E, hE⟩ : ∃ E, rflowF A0 A1 A2 (2 : Int) (2 : Int) CC (ref.toList == []) thr cl WW (warm == 0) QQ (queue == 0) II (id == 0) fb = E := ⟨_, rfl⟩
      rw [hE]
      have HE := Lib.hid hE
      clear hE
      go_enter Try.func57, Try.ntmps57
      go_wp2_with (fail)
      refine (HN0.out _).mono ?_
      rintro e wq ⟨rfl, hq⟩
      subst hq
      cases A0
      · go_wp2_with (fail)
        go_ret
        exact ⟨by rw [← HE.out]; first | rfl | (simp; done), HB.out⟩
      · go_wp2_with (fail)
        refine (HN1.out _).mono ?_
        rintro e wq ⟨rfl, hq⟩
        subst hq
        cases A1
        · go_wp2_with (fail)
          go_ret
          exact ⟨by rw [← HE.out]; first | rfl | (simp; done), HB.out⟩
        · go_wp2_with (fail)
          refine (HN2.out _).mono ?_
          rintro e wq ⟨rfl, hq⟩
          subst hq
          cases A2
          · go_wp2_with (fail)
            go_ret
            exact ⟨by rw [← HE.out]; first | rfl | (simp; done), HB.out⟩
          · go_wp2_with (fail)
            refine (HC1.out _).mono ?_
            rintro e wq ⟨rfl, hq⟩
            subst hq
            cases CC
            · go_wp2_with (fail)
              go_ret
              exact ⟨by rw [← HE.out]; first | rfl | (simp; done), HB.out⟩
            · cases thr
              · by_cases hz : warm = 0
                · subst hz
                  go_wp2_with (fail)
                  refine (HQQ.out _).mono ?_
                  rintro e wq ⟨rfl, hq⟩
                  subst hq
                  cases QQ
                  · go_wp2_with (fail)
                    go_ret
                    exact ⟨by rw [← HE.out]; first | rfl | (simp; done), HB.out⟩
                  · cases cl
                    · by_cases hz : id = 0
                      · subst hz
                        cases fb
                        · go_wp2_with (fail)
                          go_ret
                          exact ⟨by rw [← HE.out]; first | rfl | (simp; done), HB.out⟩
                        · go_wp2_with (fail)
                          go_ret
                          exact ⟨by rw [← HE.out]; first | rfl | (simp; done), HB.out⟩
                      · have hz2 : (id == 0) = false := beq_eq_false_iff_ne.2 hz
                        rw [hz2] at HE
                        have hz3 : (id != 0) = true := by simpa using hz
                        go_wp2_with (fail)
                        go_ret
                        exact ⟨by rw [← HE.out]; first | rfl | (simp; done), HB.out⟩
                    · go_wp2_with (fail)
                      go_ret
                      exact ⟨by rw [← HE.out]; first | rfl | (simp; done), HB.out⟩
                · have hz2 : (warm == 0) = false := beq_eq_false_iff_ne.2 hz
                  rw [hz2] at HE
                  have hz3 : (warm != 0) = true := by simpa using hz
                  go_wp2_with (fail)
                  go_ret
                  exact ⟨by rw [← HE.out]; first | rfl | (simp; done), HB.out⟩
              · go_wp2_with (fail)
                go_ret
                exact ⟨by rw [← HE.out]; first | rfl | (simp; done), HB.out⟩
  · clear HH
    as_aux_lemma =>
      subst h5
      rw [show (if (3 : Int) = 0 then (0 : Int) else 1) = 1 from rfl]
      generalize inZ cnt 1 1099511627776 = CC at *
      obtain ⟨E, hE⟩ : ∃ E, rflowF A0 A1 A2 (2 : Int) (3 : Int) CC (ref.toList == []) thr cl WW (warm == 0) QQ (queue == 0) II (id == 0) fb = E := ⟨_, rfl⟩
      rw [hE]
      have HE := Lib.hid hE
      clear hE
      go_enter Try.func57, Try.ntmps57
      go_wp2_with (fail)
      refine (HN0.out _).mono ?_
      rintro e wq ⟨rfl, hq⟩
      subst hq
      cases A0
      · go_wp2_with (fail)
        go_ret
        exact ⟨by rw [← HE.out]; first | rfl | (simp; done), HB.out⟩
      · go_wp2_with (fail)
        refine (HN1.out _).mono ?_
        rintro e wq ⟨rfl, hq⟩
        subst hq
        cases A1
        · go_wp2_with (fail)
          go_ret
          exact ⟨by rw [← HE.out]; first | rfl | (simp; done), HB.out⟩
        · go_wp2_with (fail)
          refine (HN2.out _).mono ?_
          rintro e wq ⟨rfl, hq⟩
          subst hq
          cases A2
          · go_wp2_with (fail)
            go_ret
            exact ⟨by rw [← HE.out]; first | rfl | (simp; done), HB.out⟩
          · go_wp2_with (fail)
            refine (HC1.out _).mono ?_
            rintro e wq ⟨rfl, hq⟩
            subst hq
            cases CC
            · go_wp2_with (fail)
              go_ret
              exact ⟨by rw [← HE.out]; first | rfl | (simp; done), HB.out⟩
            · cases thr
              · go_wp2_with (fail)
                refine (HWW.out _).mono ?_
                rintro e wq ⟨rfl, hq⟩
                subst hq
                cases WW
                · go_wp2_with (fail)
                  go_ret
                  exact ⟨by rw [← HE.out]; first | rfl | (simp; done), HB.out⟩
                · go_wp2_with (fail)
                  refine (HQQ.out _).mono ?_
                  rintro e wq ⟨rfl, hq⟩
                  subst hq
                  cases QQ
                  · go_wp2_with (fail)
                    go_ret
                    exact ⟨by rw [← HE.out]; first | rfl | (simp; done), HB.out⟩
                  · cases cl
                    · by_cases hz : id = 0
                      · subst hz
                        cases fb
                        · go_wp2_with (fail)
                          go_ret
                          exact ⟨by rw [← HE.out]; first | rfl | (simp; done), HB.out⟩
                        · go_wp2_with (fail)
                          go_ret
                          exact ⟨by rw [← HE.out]; first | rfl | (simp; done), HB.out⟩
                      · have hz2 : (id == 0) = false := beq_eq_false_iff_ne.2 hz
                        rw [hz2] at HE
                        have hz3 : (id != 0) = true := by simpa using hz
                        go_wp2_with (fail)
                        go_ret
                        exact ⟨by rw [← HE.out]; first | rfl | (simp; done), HB.out⟩
                    · go_wp2_with (fail)
                      go_ret
                      exact ⟨by rw [← HE.out]; first | rfl | (simp; done), HB.out⟩
              · go_wp2_with (fail)
                go_ret
                exact ⟨by rw [← HE.out]; first | rfl | (simp; done), HB.out⟩
  · clear HH
    as_aux_lemma =>
      have k0 : (shape != 0) = true := bne_iff_ne.2 (by omega)
      have k0e : (shape == 0) = false := beq_eq_false_iff_ne.2 (by omega)
      have k1e : (shape == 1) = false := beq_eq_false_iff_ne.2 (by omega)
      have k2e : (shape == 2) = false := beq_eq_false_iff_ne.2 (by omega)
      have k3e : (shape == 3) = false := beq_eq_false_iff_ne.2 (by omega)
      rw [show (if shape = 0 then (0 : Int) else 1) = 1 from if_neg (by omega)]
      generalize inZ cnt 1 1099511627776 = CC at *
      obtain ⟨E, hE⟩ : ∃ E, rflowF A0 A1 A2 (2 : Int) shape CC (ref.toList == []) thr cl WW (warm == 0) QQ (queue == 0) II (id == 0) fb = E := ⟨_, rfl⟩
      rw [hE]
      unfold rflowF at hE
      rw [decide_eq_false (show ¬ shape ≤ 3 by omega)] at hE
      have HE := Lib.hid hE
      clear hE
      go_enter Try.func57, Try.ntmps57
      go_wp2_with (fail)
      refine (HN0.out _).mono ?_
      rintro e wq ⟨rfl, hq⟩
      subst hq
      cases A0
      · go_wp2_with (fail)
        go_ret
        exact ⟨by rw [← HE.out]; first | rfl | (simp; done), HB.out⟩
      · go_wp2_with (fail)
        refine (HN1.out _).mono ?_
        rintro e wq ⟨rfl, hq⟩
        subst hq
        cases A1
        · go_wp2_with (fail)
          go_ret
          exact ⟨by rw [← HE.out]; first | rfl | (simp; done), HB.out⟩
        · go_wp2_with (fail)
          refine (HN2.out _).mono ?_
          rintro e wq ⟨rfl, hq⟩
          subst hq
          cases A2
          · go_wp2_with (fail)
            go_ret
            exact ⟨by rw [← HE.out]; first | rfl | (simp; done), HB.out⟩
          · go_wp2_with (fail)
            refine (HC1.out _).mono ?_
            rintro e wq ⟨rfl, hq⟩
            subst hq
            cases CC
            · go_wp2_with (fail)
              go_ret
              exact ⟨by rw [← HE.out]; first | rfl | (simp; done), HB.out⟩
            · go_wp2_with (fail)
              go_ret
              exact ⟨by rw [← HE.out]; first | rfl | (simp; done), HB.out⟩
end Go.Proofs.Ytpgjaaekpaeajaa
