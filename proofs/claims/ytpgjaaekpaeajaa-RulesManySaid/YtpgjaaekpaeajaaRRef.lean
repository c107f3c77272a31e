/- The reference's rules: what is wrong with a flow rule, a breaker's, a system's. -/
import Derived.Test.YtpgjaaekpaeajaaRuListH
import Derived.Test.YtpgjaaekpaeajaaRuE
import Derived.Test.YtpgjaaekpaeajaaRulesIn
namespace Go.Proofs.Ytpgjaaekpaeajaa
open Go.RowKit
set_option linter.unusedVariables false
set_option linter.unusedSimpArgs false

def inZ (n lo hi : Int) : Bool := decide (lo ≤ n) && decide (n ≤ hi)
theorem rinZ (n lo hi : Int) (w : World) : Calls Try.prog 88 #[.int .i64 n, .int .i64 lo, .int .i64 hi] w fun e w' => e = .returned (.bool (inZ n lo hi)) ∧ w' = w := rin_any n lo hi w
def sysRE (r : SysR) : Int := bif inZ r.q (-1) 1099511627776 then bif inZ r.t (-1) 1099511627776 then bif inZ r.r (-1) 1099511627776 then bif inZ r.l (-1) 1099511627776 then bif inZ r.c (-1) 1099511627776 then 0 else 33 else 33 else 33 else 33 else 33
/-- What the reference tells of a break rule. -/
def rbreakF (A : Bool) (gr : Int) (C S0 Sz L W R : Bool) : Int :=
  bif A then bif decide (gr ≤ 2) then bif C then bif (bif gr == 0 then S0 else Sz) then bif L then bif W then bif R then 0 else 31 else 31 else 31 else 31 else 31 else 31 else 10
theorem cond_and31 (a b : Bool) (x y : Int) : (bif a then (bif b then x else y) else y) = bif a && b then x else y := by cases a <;> rfl
theorem onlyB_cond (a : Bool) (n lo hi : Int) : onlyB a n lo hi = bif a then inZ n lo hi else (n == 0) := by
  unfold onlyB inZ
  have : (n == 0) = decide (n = 0) := rfl
  rw [this]
  cases a <;> simp
theorem rbreakF_eq (r : BreakS) : rbreakF (nameB r.res) r.gr (inZ r.cnt 0 (mostR r)) (inZ r.slow 1 3600000000) (r.slow == 0) (inZ r.least 1 1099511627776) (inZ r.win 1000000 120000000) (inZ r.rec_ 1000000 3600000000) = breakE r := by
  unfold rbreakF breakE lookE
  rw [show namedB r.res [] = nameB r.res by simp [namedB]]
  unfold br1 br2 br3 br4
  rw [onlyB_cond]
  simp only [cond_and31]
  rw [show (decide ((0 : Int) ≤ r.cnt) && decide (r.cnt ≤ mostR r)) = inZ r.cnt 0 (mostR r) from rfl, show (decide ((1 : Int) ≤ r.least) && decide (r.least ≤ 1099511627776)) = inZ r.least 1 1099511627776 from rfl, show (decide ((1000000 : Int) ≤ r.win) && decide (r.win ≤ 120000000)) = inZ r.win 1000000 120000000 from rfl, show (decide ((1000000 : Int) ≤ r.rec_) && decide (r.rec_ ≤ 3600000000)) = inZ r.rec_ 1000000 3600000000 from rfl]
  simp only [Bool.and_assoc]
  cases nameB r.res
  · rfl
  · rw [if_pos rfl, cond_true, Bool.cond_eq_ite]

set_option maxHeartbeats 6400000 in
set_option maxRecDepth 100000 in
theorem r7break_any (r : BreakS) (hz : r.res.size ≤ maxLen) (hg0 : 0 ≤ r.gr) (w : World) : Calls Try.prog 58 #[r.v] w fun e w' => e = .returned (.int .i64 (breakE r)) ∧ Below w.heap.size w w' := by
  rw [← rbreakF_eq r]
  obtain ⟨res, gr, cnt, slow, least, win, rec_⟩ := r
  unfold BreakS.v BreakS.cells mostR
  dsimp only at *
  have HB := Lib.hid (show Below w.heap.size w (w.alloc (.cells #[.string res, .int .u8 gr, .int .i64 cnt, .int .i64 slow, .int .i64 least, .int .i64 win, .int .i64 rec_] 66)) from (Below.refl _ _).alloc (Nat.le_refl _) _)
  have HN := Lib.hid (fun w => riname_any res hz w)
  have HC1 := Lib.hid (fun w => rinZ cnt 0 1000 w)
  have HC2 := Lib.hid (fun w => rinZ cnt 0 1099511627776 w)
  have HS := Lib.hid (fun w => rinZ slow 1 3600000000 w)
  have HL := Lib.hid (fun w => rinZ least 1 1099511627776 w)
  have HW := Lib.hid (fun w => rinZ win 1000000 120000000 w)
  have HR := Lib.hid (fun w => rinZ rec_ 1000000 3600000000 w)
  rcases (show gr = 0 ∨ gr = 1 ∨ gr = 2 ∨ 2 < gr by omega) with h | h | h | h
  · subst h
    obtain ⟨E, hE⟩ : ∃ E, rbreakF (nameB res) (0 : Int) (inZ cnt 0 (if (0 : Int) = 2 then 1099511627776 else 1000)) (inZ slow 1 3600000000) (slow == 0) (inZ least 1 1099511627776) (inZ win 1000000 120000000) (inZ rec_ 1000000 3600000000) = E := ⟨_, rfl⟩
    rw [hE]
    rw [show (if (0 : Int) = 2 then (1099511627776 : Int) else 1000) = 1000 from rfl] at hE
    have HE := Lib.hid hE
    clear hE hz
    generalize nameB res = A at *
    generalize inZ cnt 0 1000 = C at *
    generalize inZ slow 1 3600000000 = S at *
    generalize inZ least 1 1099511627776 = LL at *
    generalize inZ win 1000000 120000000 = WW at *
    generalize inZ rec_ 1000000 3600000000 = RR at *
    go_enter Try.func58, Try.ntmps58
    go_wp2_with (fail)
    refine (HN.out _).mono ?_
    rintro e wq ⟨rfl, hq⟩
    subst hq
    cases A
    · go_wp2_with (fail)
      go_ret
      exact ⟨by rw [← HE.out]; rfl, HB.out⟩
    · go_wp2_with (fail)
      refine (HC1.out _).mono ?_
      rintro e wq ⟨rfl, hq⟩
      subst hq
      cases C
      · go_wp2_with (fail)
        go_ret
        exact ⟨by rw [← HE.out]; rfl, HB.out⟩
      · go_wp2_with (fail)
        refine (HS.out _).mono ?_
        rintro e wq ⟨rfl, hq⟩
        subst hq
        cases S
        · go_wp2_with (fail)
          go_ret
          exact ⟨by rw [← HE.out]; rfl, HB.out⟩
        · go_wp2_with (fail)
          refine (HL.out _).mono ?_
          rintro e wq ⟨rfl, hq⟩
          subst hq
          cases LL
          · go_wp2_with (fail)
            go_ret
            exact ⟨by rw [← HE.out]; rfl, HB.out⟩
          · go_wp2_with (fail)
            refine (HW.out _).mono ?_
            rintro e wq ⟨rfl, hq⟩
            subst hq
            cases WW
            · go_wp2_with (fail)
              go_ret
              exact ⟨by rw [← HE.out]; rfl, HB.out⟩
            · go_wp2_with (fail)
              refine (HR.out _).mono ?_
              rintro e wq ⟨rfl, hq⟩
              subst hq
              cases RR
              · go_wp2_with (fail)
                go_ret
                exact ⟨by rw [← HE.out]; rfl, HB.out⟩
              · go_wp2_with (fail)
                go_ret
                exact ⟨by rw [← HE.out]; rfl, HB.out⟩
  · subst h
    obtain ⟨E, hE⟩ : ∃ E, rbreakF (nameB res) (1 : Int) (inZ cnt 0 (if (1 : Int) = 2 then 1099511627776 else 1000)) (inZ slow 1 3600000000) (slow == 0) (inZ least 1 1099511627776) (inZ win 1000000 120000000) (inZ rec_ 1000000 3600000000) = E := ⟨_, rfl⟩
    rw [hE]
    rw [show (if (1 : Int) = 2 then (1099511627776 : Int) else 1000) = 1000 from rfl] at hE
    have HE := Lib.hid hE
    clear hE hz
    generalize nameB res = A at *
    generalize inZ cnt 0 1000 = C at *
    generalize inZ slow 1 3600000000 = S at *
    generalize inZ least 1 1099511627776 = LL at *
    generalize inZ win 1000000 120000000 = WW at *
    generalize inZ rec_ 1000000 3600000000 = RR at *
    go_enter Try.func58, Try.ntmps58
    go_wp2_with (fail)
    refine (HN.out _).mono ?_
    rintro e wq ⟨rfl, hq⟩
    subst hq
    cases A
    · go_wp2_with (fail)
      go_ret
      exact ⟨by rw [← HE.out]; rfl, HB.out⟩
    · go_wp2_with (fail)
      refine (HC1.out _).mono ?_
      rintro e wq ⟨rfl, hq⟩
      subst hq
      cases C
      · go_wp2_with (fail)
        go_ret
        exact ⟨by rw [← HE.out]; rfl, HB.out⟩
      · by_cases hs : slow = 0
        · subst hs
          go_wp2_with (fail)
          refine (HL.out _).mono ?_
          rintro e wq ⟨rfl, hq⟩
          subst hq
          cases LL
          · go_wp2_with (fail)
            go_ret
            exact ⟨by rw [← HE.out]; rfl, HB.out⟩
          · go_wp2_with (fail)
            refine (HW.out _).mono ?_
            rintro e wq ⟨rfl, hq⟩
            subst hq
            cases WW
            · go_wp2_with (fail)
              go_ret
              exact ⟨by rw [← HE.out]; rfl, HB.out⟩
            · go_wp2_with (fail)
              refine (HR.out _).mono ?_
              rintro e wq ⟨rfl, hq⟩
              subst hq
              cases RR
              · go_wp2_with (fail)
                go_ret
                exact ⟨by rw [← HE.out]; rfl, HB.out⟩
              · go_wp2_with (fail)
                go_ret
                exact ⟨by rw [← HE.out]; rfl, HB.out⟩
        · have hs2 : (slow == 0) = false := beq_eq_false_iff_ne.2 hs
          rw [hs2] at HE
          have hs3 : (slow != 0) = true := by simpa using hs
          go_wp2_with (fail)
          go_ret
          exact ⟨by rw [← HE.out]; rfl, HB.out⟩
  · subst h
    obtain ⟨E, hE⟩ : ∃ E, rbreakF (nameB res) (2 : Int) (inZ cnt 0 (if (2 : Int) = 2 then 1099511627776 else 1000)) (inZ slow 1 3600000000) (slow == 0) (inZ least 1 1099511627776) (inZ win 1000000 120000000) (inZ rec_ 1000000 3600000000) = E := ⟨_, rfl⟩
    rw [hE]
    rw [show (if (2 : Int) = 2 then (1099511627776 : Int) else 1000) = 1099511627776 from rfl] at hE
    have HE := Lib.hid hE
    clear hE hz
    generalize nameB res = A at *
    generalize inZ cnt 0 1099511627776 = C at *
    generalize inZ slow 1 3600000000 = S at *
    generalize inZ least 1 1099511627776 = LL at *
    generalize inZ win 1000000 120000000 = WW at *
    generalize inZ rec_ 1000000 3600000000 = RR at *
    go_enter Try.func58, Try.ntmps58
    go_wp2_with (fail)
    refine (HN.out _).mono ?_
    rintro e wq ⟨rfl, hq⟩
    subst hq
    cases A
    · go_wp2_with (fail)
      go_ret
      exact ⟨by rw [← HE.out]; rfl, HB.out⟩
    · go_wp2_with (fail)
      refine (HC2.out _).mono ?_
      rintro e wq ⟨rfl, hq⟩
      subst hq
      cases C
      · go_wp2_with (fail)
        go_ret
        exact ⟨by rw [← HE.out]; rfl, HB.out⟩
      · by_cases hs : slow = 0
        · subst hs
          go_wp2_with (fail)
          refine (HL.out _).mono ?_
          rintro e wq ⟨rfl, hq⟩
          subst hq
          cases LL
          · go_wp2_with (fail)
            go_ret
            exact ⟨by rw [← HE.out]; rfl, HB.out⟩
          · go_wp2_with (fail)
            refine (HW.out _).mono ?_
            rintro e wq ⟨rfl, hq⟩
            subst hq
            cases WW
            · go_wp2_with (fail)
              go_ret
              exact ⟨by rw [← HE.out]; rfl, HB.out⟩
            · go_wp2_with (fail)
              refine (HR.out _).mono ?_
              rintro e wq ⟨rfl, hq⟩
              subst hq
              cases RR
              · go_wp2_with (fail)
                go_ret
                exact ⟨by rw [← HE.out]; rfl, HB.out⟩
              · go_wp2_with (fail)
                go_ret
                exact ⟨by rw [← HE.out]; rfl, HB.out⟩
        · have hs2 : (slow == 0) = false := beq_eq_false_iff_ne.2 hs
          rw [hs2] at HE
          have hs3 : (slow != 0) = true := by simpa using hs
          go_wp2_with (fail)
          go_ret
          exact ⟨by rw [← HE.out]; rfl, HB.out⟩
  · have h0 : (gr == 0) = false := beq_eq_false_iff_ne.2 (by omega)
    have h2 : (gr == 2) = false := beq_eq_false_iff_ne.2 (by omega)
    have h3 : decide (gr ≤ 2) = false := decide_eq_false (by omega)
    obtain ⟨E, hE⟩ : ∃ E, rbreakF (nameB res) gr (inZ cnt 0 (if gr = 2 then 1099511627776 else 1000)) (inZ slow 1 3600000000) (slow == 0) (inZ least 1 1099511627776) (inZ win 1000000 120000000) (inZ rec_ 1000000 3600000000) = E := ⟨_, rfl⟩
    rw [hE]
    rw [if_neg (by omega)] at hE
    unfold rbreakF at hE
    rw [h3] at hE
    have HE := Lib.hid hE
    clear hE hz
    generalize nameB res = A at *
    generalize inZ cnt 0 1000 = C at *
    generalize inZ slow 1 3600000000 = S at *
    generalize inZ least 1 1099511627776 = LL at *
    generalize inZ win 1000000 120000000 = WW at *
    generalize inZ rec_ 1000000 3600000000 = RR at *
    go_enter Try.func58, Try.ntmps58
    go_wp2_with (fail)
    refine (HN.out _).mono ?_
    rintro e wq ⟨rfl, hq⟩
    subst hq
    cases A
    · go_wp2_with (fail)
      go_ret
      exact ⟨by rw [← HE.out]; rfl, HB.out⟩
    · go_wp2_with (fail)
      go_ret
      exact ⟨by rw [← HE.out]; rfl, HB.out⟩

set_option maxHeartbeats 6400000 in
set_option maxRecDepth 100000 in
theorem r7sys_any (r : SysR) (w : World) : Calls Try.prog 60 #[.agg #[.int .i64 r.q, .int .i64 r.t, .int .i64 r.r, .int .i64 r.l, .int .i64 r.c]] w fun e w' => e = .returned (.int .i64 (sysRE r)) ∧ Below w.heap.size w w' := by
  obtain ⟨q, t, s, l, c⟩ := r
  have HB := Lib.hid (show Below w.heap.size w (w.alloc (.cells #[.int .i64 q, .int .i64 t, .int .i64 s, .int .i64 l, .int .i64 c] 84)) from (Below.refl _ _).alloc (Nat.le_refl _) _)
  have HQ := Lib.hid (fun w => rinZ q (-1) 1099511627776 w)
  have HT := Lib.hid (fun w => rinZ t (-1) 1099511627776 w)
  have HS := Lib.hid (fun w => rinZ s (-1) 1099511627776 w)
  have HL := Lib.hid (fun w => rinZ l (-1) 1099511627776 w)
  have HC := Lib.hid (fun w => rinZ c (-1) 1099511627776 w)
  obtain ⟨E, hE⟩ : ∃ E, sysRE ⟨q, t, s, l, c⟩ = E := ⟨_, rfl⟩
  rw [hE]
  unfold sysRE at hE
  dsimp only at *
  have HE := Lib.hid hE
  clear hE
  generalize inZ q (-1) 1099511627776 = Q at *
  generalize inZ t (-1) 1099511627776 = T at *
  generalize inZ s (-1) 1099511627776 = S at *
  generalize inZ l (-1) 1099511627776 = LL at *
  generalize inZ c (-1) 1099511627776 = C at *
  go_enter Try.func60, Try.ntmps60
  go_wp2_with (fail)
  refine (HQ.out _).mono ?_
  rintro e wq ⟨rfl, hq⟩
  subst hq
  cases Q
  · go_wp2_with (fail)
    go_ret
    exact ⟨by rw [← HE.out]; rfl, HB.out⟩
  · go_wp2_with (fail)
    refine (HT.out _).mono ?_
    rintro e wq ⟨rfl, hq⟩
    subst hq
    cases T
    · go_wp2_with (fail)
      go_ret
      exact ⟨by rw [← HE.out]; rfl, HB.out⟩
    · go_wp2_with (fail)
      refine (HS.out _).mono ?_
      rintro e wq ⟨rfl, hq⟩
      subst hq
      cases S
      · go_wp2_with (fail)
        go_ret
        exact ⟨by rw [← HE.out]; rfl, HB.out⟩
      · go_wp2_with (fail)
        refine (HL.out _).mono ?_
        rintro e wq ⟨rfl, hq⟩
        subst hq
        cases LL
        · go_wp2_with (fail)
          go_ret
          exact ⟨by rw [← HE.out]; rfl, HB.out⟩
        · go_wp2_with (fail)
          refine (HC.out _).mono ?_
          rintro e wq ⟨rfl, hq⟩
          subst hq
          cases C
          · go_wp2_with (fail)
            go_ret
            exact ⟨by rw [← HE.out]; rfl, HB.out⟩
          · go_wp2_with (fail)
            go_ret
            exact ⟨by rw [← HE.out]; rfl, HB.out⟩
end Go.Proofs.Ytpgjaaekpaeajaa